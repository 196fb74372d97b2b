import Derived.Test.YtjehbnhjaogfkaaSc39
namespace Go.Proofs.Ytjehbnhjaogfkaa.Sc
open Go.RowKit Go.Lib Go.Maps Go.WideAt Go.WideShapes
open Go.Proofs.Ytjehbnhjaogfkaa
set_option linter.unusedVariables false
set_option linter.unusedSimpArgs false
/-! There: what was written is read. -/
theorem emod_mul (n M : Int) (hM : 0 < M) : n % (256 * M) = n % 256 + 256 * (n / 256 % M) := by
  have h1 := Int.emod_nonneg (n / 256) (Int.ne_of_gt hM)
  have h2 := Int.emod_lt_of_pos (n / 256) hM
  have h3 : n = (n % 256 + 256 * (n / 256 % M)) + 256 * M * (n / 256 / M) := by
    have a1 := Int.emod_add_mul_ediv n 256
    have a2 := Int.emod_add_mul_ediv (n / 256) M
    rw [Int.mul_assoc]
    generalize M * (n / 256 / M) = z at *
    omega
  have h4 : n % (256 * M) = (n % 256 + 256 * (n / 256 % M)) % (256 * M) := by
    conv => lhs; rw [h3]
    rw [Int.add_mul_emod_self_left]
  rw [h4]
  generalize n / 256 % M = y at *
  exact Int.emod_eq_of_lt (by omega) (by omega)
theorem fromle_le : ∀ (k : Nat) (n : Int), fromle (le k n) = n % 256 ^ k
  | 0, n => by simp [le, fromle]
  | k + 1, n => by
    rw [le_succ, fromle, fromle_le k]
    have h1 : ((UInt8.ofNat (n % 256).toNat).toNat : Int) = n % 256 := by
      have := Int.emod_nonneg n (show (256 : Int) ≠ 0 by decide)
      have := Int.emod_lt_of_pos n (show (0 : Int) < 256 by decide)
      simp
      omega
    rw [h1, Int.pow_succ, Int.mul_comm (256 ^ k) 256]
    exact (emod_mul n _ (Int.pow_pos (by decide))).symm
theorem toI_num (n : Int) (h : inR n) : toI (fromle (num8 n)) = n := by
  unfold num8
  rw [fromle_le]
  obtain ⟨h1, h2⟩ := h
  unfold toI wrap64
  have : (256 : Int) ^ 8 = 18446744073709551616 := by decide
  rw [this]
  omega
theorem rtake_there (a r : List UInt8) : rtake ⟨a ++ r, false⟩ (a.length : Int) = (a, ⟨r, false⟩) := by
  unfold rtake
  rw [if_neg (by simp; omega)]
  simp
theorem rnum_there (n : Int) (h : inR n) (r : List UInt8) : rnum ⟨num8 n ++ r, false⟩ = (n, ⟨r, false⟩) := by
  unfold rnum
  have e := rtake_there (num8 n) r
  rw [num8_len] at e
  have e8 : ((8 : Nat) : Int) = 8 := rfl
  rw [e8] at e
  rw [e, toI_num n h]
theorem rtext_there (s : ByteArray) (h : s.size ≤ 100000) (r : List UInt8) : rtext ⟨txt s ++ r, false⟩ = (s.data.toList, ⟨r, false⟩) := by
  unfold rtext txt
  rw [List.append_assoc, rnum_there _ ⟨by omega, by omega⟩]
  have e := rtake_there s.data.toList r
  rw [Array.length_toList] at e
  exact e
theorem str_nm (s : ByteArray) : str s.data.toList = s := ba_ext rfl
theorem rcol_there (c : Col) (h : c.nm.size ≤ 100000) (hk : inR c.kd) (r : List UInt8) : rcol ⟨encC c ++ r, false⟩ = (c, ⟨r, false⟩) := by
  unfold rcol encC
  rw [List.append_assoc, rtext_there _ h]
  simp only
  rw [rnum_there _ hk, str_nm]
theorem rloop_there {α : Type} {each : RS → α × RS} {enc : α → List UInt8} : ∀ (l acc : List α) (r : List UInt8), (∀ x ∈ l, ∀ r, each ⟨enc x ++ r, false⟩ = (x, ⟨r, false⟩)) → rloop each l.length acc ⟨flatE enc l ++ r, false⟩ = (acc ++ l, ⟨r, false⟩)
  | [], acc, r, _ => by simp [rloop, flatE]
  | x :: l, acc, r, h => by
    rw [List.length_cons, rloop, if_neg (by simp), flatE, List.append_assoc, h x (List.mem_cons_self ..)]
    simp only
    rw [rloop_there l _ r fun y hy => h y (List.mem_cons_of_mem _ hy), List.append_assoc]
    rfl
theorem rlist_there {α : Type} {each : RS → α × RS} {enc : α → List UInt8} (l : List α) (hl : l.length ≤ 4096) (h : ∀ x ∈ l, ∀ r, each ⟨enc x ++ r, false⟩ = (x, ⟨r, false⟩)) (r : List UInt8) : rlist each ⟨encL enc l ++ r, false⟩ = (l, ⟨r, false⟩) := by
  unfold rlist encL
  rw [List.append_assoc, rnum_there _ ⟨by omega, by omega⟩]
  simp only [Int.toNat_natCast, Bool.false_or]
  have e1 : decide ((l.length : Int) < 0) = false := decide_eq_false (by omega)
  have e2 : decide ((4096 : Int) < (l.length : Int)) = false := decide_eq_false (by omega)
  rw [e1, e2]
  show rloop each l.length [] ⟨flatE enc l ++ r, false⟩ = _
  rw [rloop_there l [] r h]
  rfl
theorem rix_there (x : Ix) (h : x.nm.size ≤ 100000) (hc : x.cols.length ≤ 4096) (hn : ∀ n ∈ x.cols, inR n) (r : List UInt8) : rix ⟨encX x ++ r, false⟩ = (x, ⟨r, false⟩) := by
  unfold rix encX
  rw [List.append_assoc, rtext_there _ h]
  simp only
  rw [List.append_assoc, rlist_there x.cols hc (fun n hm r => rnum_there n (hn n hm) r)]
  simp only
  have e : rfl' ⟨[if x.uq then (1 : UInt8) else 0] ++ r, false⟩ = (x.uq, ⟨r, false⟩) := by
    unfold rfl' rflag
    rw [if_neg (by simp)]
    have e1 := rtake_there [if x.uq then (1 : UInt8) else 0] r
    have e2 : (([if x.uq then (1 : UInt8) else 0] : List UInt8).length : Int) = 1 := rfl
    rw [e2] at e1
    rw [e1]
    cases x.uq <;> simp [flagOf]
  rw [e, str_nm]
theorem rT_there (t : Tb) (h : Small t) (r : List UInt8) : rT (encT t ++ r) = (t, ⟨r, false⟩) := by
  unfold rT rtab encT
  simp only
  rw [List.append_assoc, rtext_there _ h.nm]
  simp only
  rw [List.append_assoc, rlist_there t.cols h.cl (fun c hc r => rcol_there c (h.cols c hc).1 (h.cols c hc).2 r)]
  simp only
  rw [List.append_assoc, rnum_there _ h.key]
  simp only
  rw [rlist_there t.ixs h.il (fun x hx r => rix_there x (h.ixs x hx).1 (h.ixs x hx).2.1 (h.ixs x hx).2.2 r), str_nm]
theorem decA_there : ∀ (l : List Tb) (k : Nat) (last : List UInt8) (acc : List Tb), (∀ t ∈ l, chk t = true) → l.Pairwise TR → (∀ t ∈ l, bytesBefore last t.nm.data.toList = true) → acc.length + l.length ≤ 4096 → (flatE encT l).length < k → decA k (flatE encT l) last acc = some (acc ++ l)
  | [], k + 1, last, acc, _, _, _, _, _ => by simp [decA, flatE]
  | [], 0, last, acc, _, _, _, _, hk => by simp [flatE] at hk
  | t :: l, 0, last, acc, _, _, _, _, hk => by omega
  | t :: l, k + 1, last, acc, hc, hs, hb, hl, hk => by
    have hct := hc t (List.mem_cons_self ..)
    obtain ⟨hsm, -⟩ := chk_small hct
    have hne : ¬ flatE encT (t :: l) = [] := fun e => by
      have := congrArg List.length e
      rw [flatE, List.length_append, encT_len] at this
      simp at this
    rw [decA, if_neg hne]
    have e : rT (flatE encT (t :: l)) = (t, ⟨flatE encT l, false⟩) := rT_there t hsm _
    rw [e]
    simp only
    rw [if_neg (by rw [hb t (List.mem_cons_self ..), hct]; simp at hl ⊢; omega)]
    have hp := List.pairwise_cons.1 hs
    have hlen : (flatE encT l).length < k := by
      rw [flatE, List.length_append, encT_len] at hk
      omega
    rw [decA_there l k _ _ (fun x hx => hc x (List.mem_cons_of_mem _ hx)) hp.2 (fun x hx => hp.1 x hx) (by simp at hl ⊢; omega) hlen, List.append_assoc]
    rfl
/-! And back: what was read is what was written. -/
theorem le_fromle : ∀ t : List UInt8, le t.length (fromle t) = t
  | [] => rfl
  | c :: r => by
    have hc := c.toNat_lt
    rw [List.length_cons, le_succ, fromle]
    have h1 : ((c.toNat : Int) + 256 * fromle r) % 256 = c.toNat := by omega
    have h2 : ((c.toNat : Int) + 256 * fromle r) / 256 = fromle r := by omega
    rw [h1, h2, le_fromle r]
    simp
theorem le_add : ∀ (k : Nat) (m q : Int), le k (m + 256 ^ k * q) = le k m
  | 0, _, _ => rfl
  | k + 1, m, q => by
    have e : m + 256 ^ (k + 1) * q = m + 256 * (256 ^ k * q) := by rw [Int.pow_succ, Int.mul_comm (256 ^ k) 256, Int.mul_assoc]
    have h1 : (m + 256 * (256 ^ k * q)) % 256 = m % 256 := by omega
    have h2 : (m + 256 * (256 ^ k * q)) / 256 = m / 256 + 256 ^ k * q := by omega
    rw [e, le_succ, le_succ, h1, h2, le_add k]
theorem num8_toI (u : Int) : num8 (toI u) = num8 u := by
  unfold num8
  have e : toI u = u + 256 ^ 8 * (-((u + 9223372036854775808) / 18446744073709551616)) := by
    unfold toI wrap64
    have : (256 : Int) ^ 8 = 18446744073709551616 := by decide
    rw [this]
    omega
  rw [e, le_add]
theorem rnum_back {s : RS} (h : (rnum s).2.bad = false) : s.bad = false ∧ s.b = num8 (rnum s).1 ++ (rnum s).2.b := by
  obtain ⟨h1, h2, h3, h4⟩ := rnum_ok h
  refine ⟨h1, ?_⟩
  rw [h3, h4, num8_toI]
  have e : num8 (fromle (s.b.take 8)) = s.b.take 8 := by
    have := le_fromle (s.b.take 8)
    rw [List.length_take, Nat.min_eq_left h2] at this
    exact this
  rw [e]
  exact (List.take_append_drop 8 s.b).symm
theorem rtake_back {s : RS} {n : Int} (h : (rtake s n).2.bad = false) : s.bad = false ∧ s.b = (rtake s n).1 ++ (rtake s n).2.b ∧ ((rtake s n).1.length : Int) = n := by
  unfold rtake at h ⊢
  split at h
  · cases h
  · next hc =>
    rw [if_neg hc]
    refine ⟨by simp only at h; exact h, (List.take_append_drop _ _).symm, ?_⟩
    simp only [List.length_take]
    omega
theorem rtext_back {s : RS} (h : (rtext s).2.bad = false) : s.bad = false ∧ s.b = txt (str (rtext s).1) ++ (rtext s).2.b := by
  unfold rtext at h ⊢
  obtain ⟨h1, h2, h3⟩ := rtake_back h
  obtain ⟨h4, h5⟩ := rnum_back h1
  refine ⟨h4, ?_⟩
  unfold txt
  rw [str_size, str_list, List.append_assoc, ← h2, h3]
  exact h5
theorem rcol_back {s : RS} (h : (rcol s).2.bad = false) : s.bad = false ∧ s.b = encC (rcol s).1 ++ (rcol s).2.b := by
  unfold rcol at h ⊢
  simp only at h ⊢
  obtain ⟨h1, h2⟩ := rnum_back h
  obtain ⟨h3, h4⟩ := rtext_back h1
  refine ⟨h3, ?_⟩
  unfold encC
  simp only
  rw [List.append_assoc, ← h2]
  exact h4
theorem rloop_back {α : Type} {each : RS → α × RS} {enc : α → List UInt8} (he : ∀ s, (each s).2.bad = false → s.bad = false ∧ s.b = enc (each s).1 ++ (each s).2.b) : ∀ (k : Nat) (acc : List α) (s : RS), (rloop each k acc s).2.bad = false → s.bad = false ∧ ∃ l, (rloop each k acc s).1 = acc ++ l ∧ l.length = k ∧ s.b = flatE enc l ++ (rloop each k acc s).2.b
  | 0, acc, s, h => ⟨h, [], by simp [rloop], rfl, rfl⟩
  | k + 1, acc, s, h => by
    rw [rloop] at h ⊢
    cases hs : s.bad with
    | true => rw [hs, if_pos rfl] at h; rw [hs] at h; cases h
    | false =>
      rw [hs, if_neg (by simp)] at h
      rw [if_neg (by simp)]
      obtain ⟨h1, l, h2, h3, h4⟩ := rloop_back he k _ _ h
      obtain ⟨-, h5⟩ := he s h1
      refine ⟨rfl, (each s).1 :: l, by rw [h2, List.append_assoc]; rfl, by rw [List.length_cons, h3], ?_⟩
      rw [flatE, List.append_assoc, ← h4]
      exact h5
theorem rlist_back {α : Type} {each : RS → α × RS} {enc : α → List UInt8} (he : ∀ s, (each s).2.bad = false → s.bad = false ∧ s.b = enc (each s).1 ++ (each s).2.b) {s : RS} (h : (rlist each s).2.bad = false) : s.bad = false ∧ s.b = encL enc (rlist each s).1 ++ (rlist each s).2.b := by
  unfold rlist at h ⊢
  obtain ⟨h1, l, h2, h3, h4⟩ := rloop_back he _ _ _ h
  simp only [Bool.or_eq_false_iff, decide_eq_false_iff_not] at h1
  obtain ⟨⟨h5, h6⟩, h7⟩ := h1
  obtain ⟨h8, h9⟩ := rnum_back h5
  refine ⟨h8, ?_⟩
  rw [h2, List.nil_append]
  unfold encL
  have e : (l.length : Int) = (rnum s).1 := by rw [h3]; omega
  rw [e, List.append_assoc, ← h4]
  exact h9
theorem rfl'_back {s : RS} (h : (rfl' s).2.bad = false) : s.bad = false ∧ s.b = [if (rfl' s).1 then (1 : UInt8) else 0] ++ (rfl' s).2.b := by
  cases hs : s.bad with
  | true =>
    have e : rfl' s = (false, s) := by unfold rfl'; rw [hs]; rfl
    rw [e] at h
    rw [show s.bad = true from hs] at h
    cases h
  | false =>
    have e : rfl' s = rflag s := by unfold rfl'; rw [hs]; rfl
    rw [e] at h ⊢
    refine ⟨rfl, ?_⟩
    unfold rflag at h ⊢
    have hb := rtake_bad s 1 (by decide)
    have e1 : ((1 : Nat) : Int) = 1 := rfl
    rw [e1] at hb
    rcases hb with ⟨h1, h2⟩ | ⟨h1, h2⟩
    · rw [h1] at h; cases h
    · obtain ⟨-, h3, -⟩ := rtake_back h2
      obtain ⟨c, hc⟩ := List.length_eq_one_iff.1 h1
      rw [hc] at h h3 ⊢
      unfold flagOf at h ⊢
      try simp only at h
      split at h
      · cases h
      · next hc1 =>
        simp only [if_neg hc1]
        have e : (if decide (c.toNat = 1) = true then (1 : UInt8) else 0) = c := by
          rcases (show c.toNat = 0 ∨ c.toNat = 1 by omega) with h0 | h0
          · rw [h0]; exact (UInt8.toNat_inj.1 (by rw [h0]; rfl))
          · rw [h0]; exact (UInt8.toNat_inj.1 (by rw [h0]; rfl))
        rw [e]
        exact h3
theorem rix_back {s : RS} (h : (rix s).2.bad = false) : s.bad = false ∧ s.b = encX (rix s).1 ++ (rix s).2.b := by
  unfold rix at h ⊢
  simp only at h ⊢
  obtain ⟨h1, h2⟩ := rfl'_back h
  obtain ⟨h3, h4⟩ := rlist_back (enc := num8) (fun s hs => rnum_back hs) h1
  obtain ⟨h5, h6⟩ := rtext_back h3
  refine ⟨h5, ?_⟩
  unfold encX
  simp only
  rw [List.append_assoc, List.append_assoc, ← h2, ← h4]
  exact h6
theorem rT_back {b : List UInt8} (h : (rT b).2.bad = false) : b = encT (rT b).1 ++ (rT b).2.b := by
  unfold rT rtab at h ⊢
  simp only at h ⊢
  obtain ⟨h1, h2⟩ := rlist_back (enc := encX) (fun s hs => rix_back hs) h
  obtain ⟨h3, h4⟩ := rnum_back h1
  obtain ⟨h5, h6⟩ := rlist_back (enc := encC) (fun s hs => rcol_back hs) h3
  obtain ⟨-, h8⟩ := rtext_back h5
  unfold encT
  simp only
  rw [List.append_assoc, List.append_assoc, List.append_assoc, ← h2, ← h4, ← h6]
  exact h8
theorem decA_back : ∀ (k : Nat) (b last : List UInt8) (acc l : List Tb), decA k b last acc = some l → ∃ l', l = acc ++ l' ∧ b = flatE encT l'
  | 0, _, _, _, _, h => by simp [decA] at h
  | k + 1, b, last, acc, l, h => by
    rw [decA] at h
    split at h
    · next hb => exact ⟨[], by simpa using (Option.some.inj h).symm, by rw [hb]; rfl⟩
    · split at h
      · cases h
      · next hc =>
        obtain ⟨l', h1, h2⟩ := decA_back k _ _ _ _ h
        have hbad : (rT b).2.bad = false := by cases hb : (rT b).2.bad with | false => rfl | true => exact absurd (.inl hb) hc
        refine ⟨(rT b).1 :: l', by rw [h1, List.append_assoc]; rfl, ?_⟩
        rw [flatE, ← h2]
        exact rT_back hbad
theorem decR_there {l : List Tb} (hc : ∀ t ∈ l, chk t = true) (hs : l.Pairwise TR) (hl : l.length ≤ 4096) (hb : (flatE encT l).length ≤ 262144) : decR (flatE encT l) = (0, some l) := by
  unfold decR
  rw [if_neg (by omega), decA_there l _ [] [] hc hs (fun t ht => ?_) (by simpa using hl) (by omega)]
  · rfl
  · have h := hc t ht
    unfold chk ck2 ck1 nmOk at h
    simp only [Bool.and_eq_true] at h
    have hne : t.nm.data.toList.isEmpty = false := by simpa using h.1.1.1.1.1.1.1.1.1
    cases hl : t.nm.data.toList with
    | nil => rw [hl] at hne; cases hne
    | cons a r => rfl
theorem decR_back {b : List UInt8} {l : List Tb} {n : Int} (h : decR b = (n, some l)) : n = 0 ∧ b = flatE encT l ∧ b.length ≤ 262144 := by
  unfold decR at h
  split at h
  · cases h
  · next hl =>
    cases hd : decA (b.length + 1) b [] [] with
    | none => rw [hd] at h; cases h
    | some l2 =>
      rw [hd] at h
      obtain ⟨h1, h2⟩ := Prod.mk.inj h
      obtain rfl := Option.some.inj h2
      obtain ⟨l', e1, e2⟩ := decA_back _ _ _ _ _ hd
      rw [List.nil_append] at e1
      subst e1
      exact ⟨h1.symm, e2, by omega⟩
end Go.Proofs.Ytjehbnhjaogfkaa.Sc
