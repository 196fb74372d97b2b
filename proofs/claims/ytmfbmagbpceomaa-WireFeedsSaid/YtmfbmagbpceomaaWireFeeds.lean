import Derived.Test.YtmfbmagbpceomaaWirePk
import Derived.Test.YtmfbmagbpceomaaWireRef
namespace Go.Proofs.Ytmfbmagbpceomaa.Wire
open Go.RowKit Go.Proofs.YtmfbmagbpceomaaW.PrintWords Go.Proofs.YtmfbmagbpceomaaW.PrintLast Go.Proofs.YtmfbmagbpceomaaW.PrintMore
set_option linter.unusedVariables false
set_option linter.unusedSimpArgs false
theorem refnew_calls (w0 w : World) (hB : Below w0.heap.size w0 w) :
    Calls Try.prog 34 #[] w fun e w' => ∃ g, e = .returned (.pointer (some ⟨g, 0, none⟩)) ∧ w'.heap[g]? = some (.cells #[.string ⟨#[]⟩, .bool false] 55 (0, 0)) ∧ w0.heap.size ≤ g ∧ Below w.heap.size w w' := by
  have hs := hB.size
  go_enter Try.func34, Try.ntmps34
  go_wp2
  go_ret
  exact ⟨w.heap.size, rfl, heap_alloc_new w _, hs, below_alloc (Below.refl _ _) _⟩
theorem feed_kept (kept : List Int) (bad : Bool) (b : ByteArray) (h : kept.length < 65540) : (feedF kept bad b).2.2.1.length < 65540 := by
  cases bad with
  | true => exact h
  | false =>
    rcases feed_fine kept b with e | e
    · rw [e]; exact h
    · rcases e with ⟨_, e⟩ | ⟨_, _, e, _⟩
      · rw [e]; decide
      · exact e
theorem KeepBut.R {w W : World} {g base : Nat} {cs : Array Value} {v : Value} {xs : List ByteArray} (h : KeepBut w W g none) (hg : w.heap[g]? = some (.cells cs 55 (0, 0))) (hR : Kd.R Kd.string 9 w base (fun _ => True) v xs) : Kd.R Kd.string 9 W base (fun _ => True) v xs :=
  Kd.R_of_own (own_move (Kd.own_of_R hR) fun k hk => h.2 k (Kd.R_lt hR k hk) (fun e => by
    obtain ⟨c', hc'⟩ := own_typed (Kd.own_of_R hR) k hk
    rw [e, hg] at hc'; injection hc' with hc'; injection hc' with _ hc'; exact absurd hc' (by decide)) (by simp)) fun _ _ => trivial
theorem St.keep {w0 w W : World} {g g2 : Nat} {kept : List Int} {bad : Bool} {cs : Array Value} (h : St w0 w g kept bad) (hk : KeepBut w W g2 none) (hg : w.heap[g2]? = some (.cells cs 55 (0, 0))) : St w0 W g kept bad := by
  obtain ⟨hge, kv, h1, h2⟩ := h
  refine ⟨hge, kv, (hk.2 g (blk_lt h1) (fun e => ?_) (by simp)).trans h1, own_move h2 fun k hk2 => ?_⟩
  · rw [e, hg] at h1; injection h1 with h1; injection h1 with _ h1; exact absurd h1 (by decide)
  · obtain ⟨c', hc'⟩ := own_typed h2 k hk2
    refine hk.2 k (blk_lt hc') (fun e => ?_) (by simp)
    rw [e, hg] at hc'; injection hc' with hc'; injection hc' with _ hc'; exact absurd hc' (by decide)
theorem same_of2 (l : List ByteArray) (hl : l.length < 1000000) : PWireBad.hopperbook_SameTexts.f (l.length + 1) l l = some true := by
  have loop : ∀ (d k i : Nat), i + d = l.length → d + 1 ≤ k → PWireBad.hopperbook_SameTexts.l0 k l l (i : Int) = some true := by
    intro d
    induction d with
    | zero => intro k i hi hk; obtain ⟨k, rfl⟩ : ∃ m, k = m + 1 := ⟨k - 1, by omega⟩; simp only [PWireBad.hopperbook_SameTexts.l0]; rw [if_neg (by omega)]
    | succ d ih =>
      intro k i hi hk
      obtain ⟨k, rfl⟩ : ∃ m, k = m + 1 := ⟨k - 1, by omega⟩
      simp only [PWireBad.hopperbook_SameTexts.l0]
      have hi1 : wrap64 ((i : Int) + 1) = ((i + 1 : Nat) : Int) := by unfold wrap64; omega
      rw [if_pos (by omega), if_pos (by omega), if_pos (by omega), if_true, hi1]
      exact ih _ _ (by omega) (by omega)
  unfold PWireBad.hopperbook_SameTexts.f
  rw [if_pos rfl]
  exact loop l.length _ 0 (by omega) (by omega)
theorem fl_count (all : List Int) : ∀ (k : Nat) (acc : List ByteArray) (at_ : Nat), (fl k all acc at_).1.length ≤ acc.length + k := by
  intro k
  induction k with
  | zero => intro acc at_; simp [fl]
  | succ k ih =>
    intro acc at_
    unfold fl
    split
    · simp
    · split
      · simp
      · split
        · simp
        · refine Nat.le_trans (ih _ _) ?_
          rw [List.length_append, List.length_singleton]; omega
theorem feed_count (kept : List Int) (bad : Bool) (b : ByteArray) (h : kept.length < 65540) : (feedF kept bad b).1.length < 1000000 := by
  unfold feedF
  split
  · exact Nat.zero_lt_succ _
  · split
    · exact Nat.zero_lt_succ _
    · refine Nat.lt_of_le_of_lt (fl_count _ _ _ _) ?_
      rw [List.length_append, bytesOf_length]; simp; omega
theorem same_q (l : List ByteArray) (hl : l.length < 1000000) (A B : Option Addr) (c d : Nat) (w : World) (h1 : Kd.C Kd.string w A l.length l) (hc : l.length ≤ c) (h2 : Kd.C Kd.string w B l.length l) (hd : l.length ≤ d) (n : Nat) :
    Calls Try.prog 36 #[.slice A l.length c, .slice B l.length d] (w.drewN n) fun e w' => e = .returned (.bool true) ∧ Drawn0 (w.drewN n) w' :=
  PWireBad.hopperbook_SameTexts.calls (l.length + 1) A c l B d l true (w.drewN n) h1 hc h2 hd (same_of2 l hl)
theorem left_q (g : Nat) (kept : List Int) (bad : Bool) (w0 w : World) (hS : St w0 w g kept bad) (X : ByteArray) (hX : bytesOf X = kept) (n : Nat) :
    Calls Try.prog 21 #[.pointer (some ⟨g, 0, none⟩)] (w.drewN n) fun e w' => e = .returned (.int .i64 (X.size : Int)) ∧ Drawn0 (w.drewN n) w' := by
  have := left_calls g kept bad w0 (w.drewN n) (hS.below (below_drew0 w n))
  rw [← hX, bytesOf_length] at this
  exact this
theorem bad_q (g : Nat) (kept : List Int) (bad : Bool) (w0 w : World) (hS : St w0 w g kept bad) (n : Nat) :
    Calls Try.prog 20 #[.pointer (some ⟨g, 0, none⟩)] (w.drewN n) fun e w' => e = .returned (.bool bad) ∧ Drawn0 (w.drewN n) w' := bad_calls g kept bad w0 (w.drewN n) (hS.below (below_drew0 w n))
theorem quiet_add {P : Program} {f : FuncId} {args : Array Value} {w : World} {a n : Nat} {v : Value}
    (h : Calls P f args (w.drewN (a + n)) fun e w' => e = .returned v ∧ Drawn0 (w.drewN (a + n)) w') :
    Calls P f args (w.drewN (a + n)) fun e w'' => e = .returned v ∧ ∃ m, w'' = w.drewN (a + m) :=
  h.mono fun _ _ ⟨he, hd⟩ => by
    obtain ⟨m, hm⟩ := hd.out
    exact ⟨he, n + m, by rw [hm, World.drewN_drewN, Nat.add_assoc]⟩
theorem quiet_one {P : Program} {f : FuncId} {args : Array Value} {w : World} {n : Nat} {v : Value}
    (h : Calls P f args (w.drewN n) fun e w' => e = .returned v ∧ Drawn0 (w.drewN n) w') :
    Calls P f args (w.drewN n) fun e w'' => e = .returned v ∧ ∃ m, w'' = w.drewN m :=
  h.mono fun _ _ ⟨he, hd⟩ => by
    obtain ⟨m, hm⟩ := hd.out
    exact ⟨he, n + m, by rw [hm, World.drewN_drewN]⟩
theorem spoil_step {w0 W : World} {g g2 base gb n c j : Nat} {cs : Array Value} {kept : List Int} {bad : Bool} {ys : List ByteArray} (hn : ys.length = n) (hj : j < n) (hR : Kd.R Kd.string 9 W base (fun _ => True) (.slice (some ⟨gb, 0, none⟩) n c) ys)
    (hV : St w0 W g kept bad ∧ W.heap[g2]? = some (.cells cs 55 (0, 0)) ∧ Below w0.heap.size w0 W) (hgb : w0.heap.size ≤ gb) (b : ByteArray) :
    Kd.R Kd.string 9 (W.setCell ⟨gb, j, none⟩ (.string b)) base (fun _ => True) (.slice (some ⟨gb, 0, none⟩) n c) (ys.set j b) ∧ St w0 (W.setCell ⟨gb, j, none⟩ (.string b)) g kept bad ∧ (W.setCell ⟨gb, j, none⟩ (.string b)).heap[g2]? = some (.cells cs 55 (0, 0)) ∧ Below w0.heap.size w0 (W.setCell ⟨gb, j, none⟩ (.string b)) := by
  subst hn
  obtain ⟨h1, h2⟩ := Kd.R_put hR (j : Int) b
  simp only [Int.toNat_natCast] at h1 h2
  refine ⟨h1, hV.1.grown hR h2, ?_, below_set hV.2.2 hgb⟩
  refine (Below.heap_setCell W ⟨gb, j, none⟩ _ g2 fun e => ?_).trans hV.2.1
  obtain ⟨c', hc'⟩ := own_typed (Kd.own_of_R hR) gb rfl
  change g2 = gb at e
  have := hV.2.1
  rw [e, hc'] at this; injection this with this; injection this with _ this; exact absurd this (by decide)
set_option maxRecDepth 100000 in
set_option maxHeartbeats 8000000 in
theorem feeds_walk (A : Option Addr) (l : List ByteArray) (c : Nat) (w : World) (h : Kd.C Kd.string w A l.length l) (hc : l.length ≤ c) (hsz : ∀ s ∈ l, s.size ≤ maxLen) :
    Calls Try.prog 9 #[.slice A l.length c] w fun e w' => e = .returned (.bool true) ∧ Below w.heap.size w w' := by
  have HC := Aside0.mk h
  clear h
  go_enter Try.func9, Try.ntmps9
  go_wp2_with fail
  refine (new_calls w w (Below.refl _ _)).mono ?_
  rintro e w1 ⟨g, rfl, hS, hB, _⟩
  have HS := Aside0.mk hS
  have HB := Aside0.mk hB
  clear hS hB
  go_wp2_with fail
  refine (refnew_calls w w1 HB.out).mono ?_
  rintro e w2 ⟨g2, rfl, hb2, hg2, hB2⟩
  have HG2 := Aside0.mk hg2
  have HS2 := Aside0.mk (And.intro (HS.out.below hB2) (And.intro hb2 (below_step HB.out hB2)))
  clear hB2 hb2 hg2 HS HB
  go_wp2_with fail
  go_loopg [5] 61 (fun kq v5 w' => ∃ (i : Nat) (s : ByteArray) (bad : Bool), v5 = .int .i64 (i : Int) ∧ Aside0 (i + kq = 61 ∧ i ≤ 60 ∧ s.size < 65540) ∧ Aside0 (St w w' g (bytesOf s) bad ∧ w'.heap[g2]? = some (.cells #[.string s, .bool bad] 55 (0, 0)) ∧ Below w.heap.size w w'))
  case atStart => exact ⟨0, ⟨#[]⟩, false, rfl, ⟨rfl, Nat.zero_le _, by decide⟩, HS2⟩
  case round =>
    obtain ⟨i, s, bad, rfl, HI, HS⟩ := hrel
    clear HS2
    by_cases q1 : i < l.length
    · by_cases q2 : i < 60
      · obtain ⟨kq1, rfl⟩ : ∃ kq1, gk = kq1 + 1 := ⟨gk - 1, by have := HI.out; omega⟩
        obtain ⟨ad, rfl, hx⟩ := Kd.at_string (Kd.C_below HC.out HS.out.2.2) (i : Int) (by omega) (by omega)
        obtain ⟨t, ht⟩ : ∃ t, rdOf ByteArray.empty l (i : Int) = t := ⟨_, rfl⟩
        rw [ht] at hx
        have q1' : (i : Int) < (l.length : Int) := by omega
        have q2' : (i : Int) < 60 := by omega
        have HQ := Aside0.mk (And.intro q1 q2)
        have HT := Aside0.mk ht
        clear q1 q2 ht
        simp only [Int.toNat_natCast] at hx
        go_wp2_with fail
        refine (feed_calls g (bytesOf s) bad t w wr HS.out.1 HS.out.2.2 (by rw [bytesOf_length]; have := HI.out; omega)).mono ?_
        have hkept := feed_kept (bytesOf s) bad t (by rw [bytesOf_length]; exact HI.out.2.2)
        have hcount := feed_count (bytesOf s) bad t (by rw [bytesOf_length]; exact HI.out.2.2)
        have HRef := fun W hS hB => ref_calls g2 s t bad w W hS HG2.out hB (by have := HI.out; omega)
        generalize feedF (bytesOf s) bad t = r at hkept hcount HRef ⊢
        obtain ⟨bs, code, k', bd⟩ := r
        rintro e w3 ⟨va, rfl, hR3, hS3, hB3, hK3⟩
        have HK3 := Aside0.mk hkept
        have HBS := Aside0.mk hcount
        have HRef' := Aside0.mk HRef
        have HS3 := Aside0.mk (And.intro hS3 (And.intro (hK3.blk HS.out.2.1 (by decide) (ne_of_types HS.out.2.1 HS.out.1.out.choose_spec.1 (by decide))) hB3))
        have HA3 := Aside0.mk hR3
        obtain ⟨ad', e', hx3⟩ := Kd.at_string (Kd.C_below HC.out hB3) (i : Int) (by omega) (by omega)
        injection e' with e'
        subst e'
        rw [HT.out] at hx3
        simp only [Int.toNat_natCast] at hx3
        have hsz3 := HS.out.2.2.size
        have HZ := Aside0.mk hsz3
        clear hkept hcount HRef hR3 hS3 hB3 hK3 hx HS hsz3
        go_wp2_with fail
        refine (HRef'.out w3 HS3.out.2.1 HS3.out.2.2).mono ?_
        rintro e w4 ⟨vb, X, rfl, hR4, hb4, hX4, hB4, hK4⟩
        simp only at hX4
        have HX4 := Aside0.mk hX4
        have HA4 := Aside0.mk (KeepBut.R hK4 HS3.out.2.1 HA3.out)
        have HB4 := Aside0.mk hR4
        have HS4 := Aside0.mk (And.intro (HS3.out.1.keep hK4 HS3.out.2.1) (And.intro hb4 hB4))
        clear hR4 hb4 hX4 hB4 hK4 HS3 HA3 HRef' hx3
        obtain ⟨Aa, ca, rfl, hca, hCa⟩ := Kd.R_reads HA4.out
        obtain ⟨Ab, cb, rfl, hcb, hCb⟩ := Kd.R_reads HB4.out
        obtain ⟨ad', e', hx4⟩ := Kd.at_string (Kd.C_below HC.out HS4.out.2.2) (i : Int) (by omega) (by omega)
        injection e' with e'
        subst e'
        rw [HT.out] at hx4
        simp only [Int.toNat_natCast] at hx4
        have SQ := Aside0.mk (same_q bs HBS.out Aa Ab ca cb w4 hCa hca hCb hcb)
        have LQ := Aside0.mk (left_q g k' bd w w4 HS4.out.1 X HX4.out)
        have BQ := Aside0.mk (bad_q g k' bd w w4 HS4.out.1)
        have cc0 : w4.cell? ⟨g2, 0, none⟩ = some (.string X) := by have := blk_cell HS4.out.2.1 0; simpa using this
        have cc1 : w4.cell? ⟨g2, 1, none⟩ = some (.bool bd) := by have := blk_cell HS4.out.2.1 1; simpa using this
        clear hca hCa hcb hCb
        go_wp2_with fail
        go_quiet (first | (go_at_call 36; with_reducible first | exact quiet_add (SQ.out _) | exact quiet_one (SQ.out _)) | (go_at_call 21; with_reducible first | exact quiet_add (LQ.out _) | exact quiet_one (LQ.out _)) | (go_at_call 20; with_reducible first | exact quiet_add (BQ.out _) | exact quiet_one (BQ.out _)))
        have HS5 := Aside0.mk (And.intro (HS4.out.1.below (below_drew0 w4 nq)) (And.intro (show (w4.drewN nq).heap[g2]? = _ from HS4.out.2.1) (pw_below_drewN HS4.out.2.2 nq)))
        have HA5 := Aside0.mk (Kd.R_drewN HA4.out nq)
        have hx5 : (w4.drewN nq).cell? (ad.add i) = some (.string t) := hx4
        clear SQ LQ BQ cc0 cc1 hx4 HS4 HA4 HB4
        generalize w4.drewN nq = w5 at *
        have HX5 := Aside0.mk hx5
        clear hx5
        have hbl : bs.length < 1000000 := HBS.out
        go_wp2_with fail
        go_loopg [10] (bs.length + 1) (fun kr v10 w' => ∃ (j : Nat) (ys : List ByteArray), v10 = .int .i64 (j : Int) ∧ Aside0 (j + kr = bs.length + 1 ∧ ys.length = bs.length) ∧ Aside0 (Kd.R Kd.string 9 w' wr.heap.size (fun _ => True) (.slice Aa bs.length ca) ys) ∧ Aside0 (St w w' g k' bd ∧ w'.heap[g2]? = some (.cells #[.string X, .bool bd] 55 (0, 0)) ∧ Below w.heap.size w w'))
        case atStart => exact ⟨0, bs, rfl, ⟨by omega, rfl⟩, HA5, HS5⟩
        case round =>
          obtain ⟨j, ys, rfl, HJ, HY, HV⟩ := hrel
          clear HS5 HA5 HX5
          by_cases t1 : j < bs.length
          · obtain ⟨kr1, rfl⟩ : ∃ kr1, gk = kr1 + 1 := ⟨gk - 1, by have := HJ.out; omega⟩
            have hy := HJ.out.2
            obtain ⟨gb, cap, he, hgb, _, _⟩ := Kd.R_form HY.out (by omega)
            injection he with he1 he2 he3
            subst he1
            have hput := Kd.R_cell ByteArray.empty (show Kd.R Kd.string 9 _ _ (fun _ => True) (.slice (some ⟨gb, 0, none⟩) ys.length ca) ys from by rw [hy]; exact HY.out) (j : Int) (by omega) (by omega)
            obtain ⟨hp1, hp2⟩ := hput
            simp only [Int.toNat_natCast] at hp1 hp2
            have t1' : (j : Int) < (bs.length : Int) := by omega
            have HP := Aside0.mk (spoil_step (HJ.out.2) t1 HY.out HV.out (Nat.le_trans HZ.out hgb) ⟨#[115, 112, 111, 105, 108, 116]⟩)
            have HT1 := Aside0.mk t1
            clear he2 he3 hgb t1 hy HY HV
            go_wp2
            go_roundg kr1
            case measure => omega
            case rel => exact ⟨j + 1, ys.set j _, by simp, ⟨by have := HJ.out; omega, by rw [List.length_set]; exact HJ.out.2⟩, ⟨HP.out.1⟩, ⟨HP.out.2⟩⟩
          · have t1' : (bs.length : Int) ≤ (j : Int) := by omega
            clear t1
            obtain ⟨ad', e', hx6⟩ := Kd.at_string (Kd.C_below HC.out HV.out.2.2) (i : Int) (by have := HQ.out; omega) (by have := HQ.out; omega)
            injection e' with e'
            subst e'
            rw [HT.out] at hx6
            simp only [Int.toNat_natCast] at hx6
            obtain ⟨p, en, hp37, hp38⟩ := packets_calls t
            have P37 := Aside0.mk hp37
            have P38 := Aside0.mk hp38
            clear hp37 hp38
            go_wp2_with fail
            refine (P37.out _).mono ?_
            rintro e w7 ⟨rfl, hb7⟩
            have HV7 := Aside0.mk (And.intro (HV.out.1.below hb7) (And.intro (blk_below HV.out.2.1 hb7) (below_step HV.out.2.2 hb7)))
            obtain ⟨ad', e', hx7⟩ := Kd.at_string (Kd.C_below HC.out HV7.out.2.2) (i : Int) (by have := HQ.out; omega) (by have := HQ.out; omega)
            injection e' with e'
            subst e'
            rw [HT.out] at hx7
            simp only [Int.toNat_natCast] at hx7
            clear hb7 HV hx6
            go_wp2_with fail
            refine (P38.out _).mono ?_
            rintro e w8 ⟨rfl, hb8⟩
            have HV8 := Aside0.mk (And.intro (HV7.out.1.below hb8) (And.intro (blk_below HV7.out.2.1 hb8) (below_step HV7.out.2.2 hb8)))
            clear hb8 HV7 hx7
            go_wp2_with fail
            go_roundg kq1
            case measure => omega
            case rel => exact ⟨i + 1, X, bd, by simp, ⟨by have := HI.out; omega, by have := HQ.out; omega, by have := HK3.out; rw [← HX4.out, bytesOf_length] at this; exact this⟩, ⟨by rw [HX4.out]; exact HV8.out.1, HV8.out.2⟩⟩
      · have q1' : (i : Int) < (l.length : Int) := by omega
        have q2' : (60 : Int) ≤ (i : Int) := by omega
        clear q1 q2
        go_wp2_with fail
        refine (works_calls _).mono ?_
        rintro e w3 ⟨rfl, hb3⟩
        have HB3 := Aside0.mk (below_step HS.out.2.2 hb3)
        clear hb3 HS
        go_wp2
        go_ret
        exact ⟨rfl, HB3.out⟩
    · have q1' : (l.length : Int) ≤ (i : Int) := by omega
      clear q1
      go_wp2_with fail
      refine (works_calls _).mono ?_
      rintro e w3 ⟨rfl, hb3⟩
      have HB3 := Aside0.mk (below_step HS.out.2.2 hb3)
      clear hb3 HS
      go_wp2
      go_ret
      exact ⟨rfl, HB3.out⟩
end Go.Proofs.Ytmfbmagbpceomaa.Wire
