/- Mr: the texts Sc70, Sc71, Sc72, Sc73, Sc74, Sc75, Sc76, one behind the other. -/
import Derived.Test.YtjehbnhjaogfkaaMt
import Derived.Test.YtjehbnhjaogfkaaHC
section
namespace Go.Proofs.Ytjehbnhjaogfkaa.Sc
open Go.RowKit Go.Lib Go.Maps Go.WideAt Go.WideShapes Go.Proofs.YtjehbnhjaogfkaaW.PrintWords Go.Proofs.YtjehbnhjaogfkaaW.PrintLast Go.Proofs.YtjehbnhjaogfkaaW.PrintMore
open Go.Proofs.Ytjehbnhjaogfkaa
set_option linter.unusedVariables false
set_option linter.unusedSimpArgs false
def vl (K : FM.T Tb) : List Tb := K.map fun p => p.2
theorem vl_len (K : FM.T Tb) : (vl K).length = K.length := List.length_map _
theorem vl_at {K : FM.T Tb} {i : Nat} (h : i < K.length) (h' : i < (vl K).length) : (vl K)[i] = (K[i]).2 := List.getElem_map _
/-- The document's catalogue at block h, which is the list K in order; its rows lie behind h, and are ok. -/
structure RK (ok : Nat → Prop) (W : World) (h : Nat) (K : FM.T Tb) : Prop where
  row : ∃ v, W.heap[h]? = some (.cells #[v] 50 (0, 0)) ∧ ktb.R 30 W (h + 1) ok v (vl K)
  st : FL.St K
  nm : ∀ p ∈ K, p.1 = p.2.nm.data.toList
  len : K.length ≤ 4096
  ck : ∀ p ∈ K, chk p.2 = true
theorem RK.lt {ok : Nat → Prop} {W : World} {h : Nat} {K : FM.T Tb} (k : RK ok W h K) : h < W.heap.size := by
  obtain ⟨v, h1, -⟩ := k.row
  exact blk_lt h1
theorem RK.fr {ok : Nat → Prop} {W W1 : World} {h : Nat} {K : FM.T Tb} {S : Nat → Prop} (k : RK ok W h K) (hf : Fr S W W1) (hh : ¬ S h) (hS : ∀ x, ok x → ¬ S x) : RK ok W1 h K := by
  obtain ⟨v, h1, h2⟩ := k.row
  exact ⟨⟨v, (hf.block h (blk_lt h1) hh).trans h1, Kd.R_step h2 fun x hx hlt => hf.block x hlt (hS x hx)⟩, k.st, k.nm, k.len, k.ck⟩
theorem RK.below {ok : Nat → Prop} {W W1 : World} {h : Nat} {K : FM.T Tb} (k : RK ok W h K) (hb : Below W.heap.size W W1) : RK ok W1 h K :=
  k.fr (S := fun _ => False) (Fr.of_below hb) (fun h => h) (fun _ _ h => h)
theorem RK.mono {ok ok' : Nat → Prop} {W : World} {h : Nat} {K : FM.T Tb} (k : RK ok W h K) (hok : ∀ x, ok x → x < W.heap.size → ok' x) : RK ok' W h K := by
  obtain ⟨v, h1, h2⟩ := k.row
  exact ⟨⟨v, h1, Kd.R_mono (Kd.R_bound h2) fun x hx => hok x hx.1 hx.2.2.1⟩, k.st, k.nm, k.len, k.ck⟩
theorem RK.rc {ok : Nat → Prop} {W : World} {h : Nat} {K : FM.T Tb} (k : RK ok W h K) : IsRc W h (vl K) := by
  obtain ⟨v, h1, h2⟩ := k.row
  exact ⟨v, h1, Kd.R_mono h2 fun _ _ => trivial⟩
/-- The program's catalogue and the document's are the same. -/
def kOf (M : CatM) : FM.T Tb := mapV (fun p : Value × Tb => p.2) M
theorem kOf_tbs (M : CatM) : vl (kOf M) = tbs M := by simp [vl, kOf, mapV, tbs]
theorem kOf_len (M : CatM) : (kOf M).length = M.length := by simp [kOf, mapV]
theorem kOf_get (M : CatM) (k : FM.Key) : FM.get (kOf M) k = (FM.get M k).map (·.2) := mapV_get _ k M
theorem kOf_isSome (M : CatM) (k : FM.Key) : (FM.get (kOf M) k).isSome = (FM.get M k).isSome := by rw [kOf_get]; cases FM.get M k <;> rfl
theorem kOf_put (M : CatM) (k : FM.Key) (v : Value) (t : Tb) : kOf (FM.put M k (v, t)) = FM.put (kOf M) k t := mapV_put _ k (v, t) M
theorem kOf_del (M : CatM) (k : FM.Key) : kOf (FM.del M k) = FM.del (kOf M) k := mapV_del _ k M
theorem getK_at {K : FM.T Tb} (hs : FL.St K) (k : FM.Key) (h : FL.pl K k < K.length) : (FM.get K k).isSome = decide ((K[FL.pl K k]).1 = k) := by
  rw [FL.get_pl K hs k, List.getElem?_eq_getElem h]
  by_cases e : (K[FL.pl K k]).1 = k <;> simp [e]
theorem getK_end {K : FM.T Tb} (hs : FL.St K) (k : FM.Key) (h : K.length ≤ FL.pl K k) : (FM.get K k).isSome = false := by
  rw [FL.get_pl K hs k, List.getElem?_eq_none h]
  rfl
set_option maxRecDepth 100000 in
set_option maxHeartbeats 4000000 in
theorem dplace_walk (ok : Nat → Prop) (W : World) (h : Nat) (K : FM.T Tb) (hk : RK ok W h K) (s : ByteArray) :
    Calls Try.prog 42 #[.pointer (some ⟨h, 0, none⟩), .string s] W fun e W' => e = .returned (.tuple #[.int .i64 (FL.pl K s.data.toList : Int), .bool (FM.get K s.data.toList).isSome]) ∧ Below W.heap.size W W' := by
  obtain ⟨v, hv, hr⟩ := hk.row
  obtain ⟨A, ca, rfl, hca, hC⟩ := Kd.R_reads hr
  have hnm := hk.nm
  have hst := hk.st
  have hml := hk.len
  have hmap : ∀ i (hi : i < K.length), ((vl K)[i]'(by rw [vl_len]; exact hi)).nm.data.toList = (K[i]).1 := fun i hi => by rw [vl_at hi]; exact (hnm _ (List.getElem_mem hi)).symm
  have hle := FL.pl_le K s.data.toList
  obtain ⟨p, hp⟩ : ∃ p, FL.pl K s.data.toList = p := ⟨_, rfl⟩
  obtain ⟨T, hT⟩ : ∃ T, (FM.get K s.data.toList).isSome = T := ⟨_, rfl⟩
  have HP := Aside0.mk hp
  have HT := Aside0.mk hT
  have HST := Aside0.mk hst
  have HC := Aside0.mk hC
  have HM := Aside0.mk hmap
  rw [hp] at hle ⊢
  rw [hT]
  have hll : (vl K).length = K.length := vl_len K
  have c0 := (blk_cell hv 0).trans (show _ = some (Value.slice A (vl K).length ca) from rfl)
  rw [hll] at c0
  clear hk hr hC hmap hnm hst hp hT hv hca
  go_enter Try.func42, Try.ntmps42
  go_wp2_with fail
  go_loopg [6] (K.length + 1) (fun kq v w' => ∃ i : Nat, v = .int .i64 (i : Int) ∧ Aside0 (i + kq = K.length + 1 ∧ i ≤ p) ∧ w' = W)
  case atStart => exact ⟨0, rfl, ⟨by omega, Nat.zero_le _⟩, rfl⟩
  case round =>
    obtain ⟨i, rfl, HI, hw⟩ := hrel
    subst hw
    have hi2 := HI.out.2
    by_cases q : i < p
    · obtain ⟨kq1, rfl⟩ : ∃ kq1, gk = kq1 + 1 := ⟨gk - 1, by have := HI.out; omega⟩
      have hil : i < K.length := by omega
      have hil' : (i : Int) < (K.length : Int) := by omega
      obtain ⟨ad, B, cb, D, cd, rfl, x0, -, -, -, -, -, -, -⟩ := tb_at HC.out i (by rw [hll]; exact hil)
      have hbl : Op.bytesLess ((vl K)[i]'(by rw [hll]; exact hil)).nm.toList s.toList = true := by
        rw [ByteArray.toList_eq, ByteArray.toList_eq, ← FL.before_eq, HM.out i hil]
        exact FL.pl_less K _ i hil (by rw [HP.out]; exact q)
      generalize ((vl K)[i]'(by rw [hll]; exact hil)).nm = x at x0 hbl
      have HQ := Aside0.mk q
      clear hil q hi2
      go_wp2_with fail
      go_roundg kq1
      case measure => omega
      case rel => exact ⟨i + 1, by go_num, ⟨by have := HI.out; omega, by have := HQ.out; omega⟩, rfl⟩
    · obtain rfl : i = p := by omega
      by_cases hil : i < K.length
      · have hil' : (i : Int) < (K.length : Int) := by omega
        obtain ⟨ad, B, cb, D, cd, rfl, x0, -, -, -, -, -, -, -⟩ := tb_at HC.out i (by rw [hll]; exact hil)
        have hbl : Op.bytesLess ((vl K)[i]'(by rw [hll]; exact hil)).nm.toList s.toList = false := by
          rw [ByteArray.toList_eq, ByteArray.toList_eq, ← FL.before_eq, HM.out i hil]
          have := FL.pl_not K s.data.toList (by rw [HP.out]; exact hil)
          simp only [HP.out] at this
          exact this
        have heq : (((vl K)[i]'(by rw [hll]; exact hil)).nm.toList == s.toList) = T := by
          refine str_eqb ?_
          rw [HM.out i hil, ← HT.out, getK_at HST.out _ (by rw [HP.out]; exact hil)]
          simp only [HP.out]
        generalize ((vl K)[i]'(by rw [hll]; exact hil)).nm = x at x0 hbl heq
        clear hil q hi2
        go_upto_region 4 with fail
        go_quiet (fail)
        go_wp2_with fail
        exact bodyPost_ret (v := .tuple #[.int .i64 (i : Int), .bool _]) (by simp [results, Try.results42, go_sem]) rfl ⟨rfl, pw_below_drewN (Below.refl _ _) _⟩
      · have hil' : ¬ (i : Int) < (K.length : Int) := by omega
        have hTf : T = false := by rw [← HT.out]; exact getK_end HST.out _ (by rw [HP.out]; omega)
        subst hTf
        clear hil q hi2
        go_upto_region 4 with fail
        go_quiet (fail)
        go_wp2_with fail
        exact bodyPost_ret (v := .tuple #[.int .i64 (i : Int), .bool _]) (by simp [results, Try.results42, go_sem]) rfl ⟨rfl, pw_below_drewN (Below.refl _ _) _⟩
end Go.Proofs.Ytjehbnhjaogfkaa.Sc
end

section
namespace Go.Proofs.Ytjehbnhjaogfkaa.Sc
open Go.RowKit Go.Lib Go.Maps Go.WideAt Go.WideShapes Go.Proofs.YtjehbnhjaogfkaaW.PrintWords Go.Proofs.YtjehbnhjaogfkaaW.PrintLast Go.Proofs.YtjehbnhjaogfkaaW.PrintMore
open Go.Proofs.Ytjehbnhjaogfkaa
set_option linter.unusedVariables false
set_option linter.unusedSimpArgs false
/-! Rows of the print's elements and of mine are the same rows. -/
theorem C_map {α β : Type} {d : Kd α} {d' : Kd β} (f : α → β) (hs : d.sz = d'.sz) (hk : ∀ {w x cs}, d.K w x cs → d'.K w (f x) cs) {w : World} {A : Option Addr} {n : Nat} {xs : List α} (h : d.C w A n xs) : d'.C w A n (xs.map f) := by
  obtain ⟨h1, h2, h3⟩ := h
  refine ⟨by rw [List.length_map]; exact h1, h2, fun hn => ?_⟩
  obtain ⟨ad, e, hc⟩ := h3 hn
  refine ⟨ad, e, fun j p hj => ?_⟩
  rw [List.getElem?_map] at hj
  cases hx : xs[j]? with
  | none => rw [hx] at hj; cases hj
  | some x =>
    rw [hx] at hj
    obtain rfl := Option.some.inj hj
    obtain ⟨c, c1, c2, c3⟩ := hc j x hx
    rw [← hs]
    exact ⟨c, c1, hk c2, c3⟩
theorem R_unmap {α β : Type} {d : Kd α} {d' : Kd β} (f : α → β) (hs : d.sz = d'.sz) (hm : ∀ {w base ok x cs}, d'.M w base ok (f x) cs → d.M w base ok x cs) {e : Nat} {w : World} {base : Nat} {ok : Nat → Prop} {v : Value} {xs : List α} (h : d'.R e w base ok v (xs.map f)) : d.R e w base ok v xs := by
  obtain ⟨h0, inner, ho, hr1, hr2⟩ := h
  rw [List.length_map] at ho hr1
  refine ⟨h0, inner, by rw [hs]; exact ho, by rw [hs]; exact hr1, fun j p hj => ?_⟩
  have := hr2 j (f p) (by rw [List.getElem?_map, hj]; rfl)
  rw [hs]
  exact hm this
def toC (x : Col) : HC.S32 := ⟨x.nm, x.kd⟩
def toX (x : Ix) : HC.S67 := ⟨x.nm, x.cols, x.uq⟩
theorem copy_l0 (nm : ByteArray) (cols : List HC.S32) (key : Int) (ixs : List Ix) (h2 : ixs.length < 2932031007402) (h3 : ∀ x ∈ ixs, x.cols.length < 17592186044416) :
    ∀ (n j : Nat), n + j = ixs.length → HC.hopperbook_CopyTable.l0 (n + 1) (j : Int) nm cols key (ixs.map toX) nm cols key ((ixs.take j).map toX) = some (nm, cols, key, ixs.map toX)
  | 0, j, h => by
    rw [HC.hopperbook_CopyTable.l0, if_neg (by rw [List.length_map]; omega), List.take_of_length_le (by omega)]
  | n + 1, j, h => by
    have hj : j < ixs.length := by omega
    have ih := copy_l0 nm cols key ixs h2 h3 n (j + 1) (by omega)
    rw [HC.hopperbook_CopyTable.l0, if_pos (by rw [List.length_map]; omega), if_pos (by omega)]
    have e : HC.rd_T67 (ixs.map toX) (j : Int) = toX ixs[j] := by
      unfold HC.rd_T67
      rw [Int.toNat_natCast, List.getD_eq_getElem?_getD, List.getElem?_map, List.getElem?_eq_getElem hj]
      rfl
    rw [e, Option.bind_some, if_pos (by have := h3 _ (List.getElem_mem hj); simpa [toX] using this), if_pos (by rw [List.length_map, List.length_take]; omega)]
    have e2 : wrap64 ((j : Int) + 1) = ((j + 1 : Nat) : Int) := by unfold wrap64; omega
    have e3 : (ixs.take j).map toX ++ [(⟨(toX ixs[j]).f0, ([] : List Int) ++ (toX ixs[j]).f1, (toX ixs[j]).f2⟩ : HC.S67)] = (ixs.take (j + 1)).map toX := by
      rw [List.take_succ_eq_append_getElem hj, List.map_append]
      rfl
    rw [e2, e3]
    exact ih
theorem copy_f (t : Tb) (h1 : t.cols.length < 5864062014805) (h2 : t.ixs.length < 2932031007402) (h3 : ∀ x ∈ t.ixs, x.cols.length < 17592186044416) :
    HC.hopperbook_CopyTable.f (t.ixs.length + 1) t.nm (t.cols.map toC) t.key (t.ixs.map toX) = some (t.nm, t.cols.map toC, t.key, t.ixs.map toX) := by
  unfold HC.hopperbook_CopyTable.f
  rw [Option.bind_some, if_pos (by rw [List.length_map]; simpa using h1)]
  exact copy_l0 t.nm (t.cols.map toC) t.key t.ixs h2 h3 t.ixs.length 0 (by omega)
/-- The book's CopyTable. -/
theorem copy_walk (W : World) (t : Tb) (A : Option Addr) (ca : Nat) (B : Option Addr) (cb : Nat) (hA : kcol.C W A t.cols.length t.cols) (hca : t.cols.length ≤ ca) (hB : kix.C W B t.ixs.length t.ixs) (hcb : t.ixs.length ≤ cb)
    (h1 : t.cols.length < 5864062014805) (h2 : t.ixs.length < 2932031007402) (h3 : ∀ x ∈ t.ixs, x.cols.length < 17592186044416) :
    Calls Try.prog 21 #[.agg #[.string t.nm, .slice A t.cols.length ca, .int .i64 t.key, .slice B t.ixs.length cb]] W fun e w' => ∃ v, e = .returned v ∧ OwnTb (fun _ => True) W.heap.size w' v t ∧ Below W.heap.size W w' := by
  have e1 : (t.cols.map toC).length = t.cols.length := List.length_map _
  have e2 : (t.ixs.map toX).length = t.ixs.length := List.length_map _
  have h := HC.hopperbook_CopyTable.calls (t.ixs.length + 1) t.nm A ca (t.cols.map toC) t.key B cb (t.ixs.map toX) t.nm (t.cols.map toC) t.key (t.ixs.map toX) W
    (by rw [e1]; exact C_map toC rfl (fun h => h) hA) (by rw [e1]; exact hca) (by rw [e2]; exact C_map toX rfl (fun h => h) hB) (by rw [e2]; exact hcb) (copy_f t h1 h2 h3)
  rw [e1, e2] at h
  refine h.mono ?_
  rintro e w' ⟨v1, v3, rfl, hr1, hr3, hb⟩
  exact ⟨_, rfl, ⟨v1, v3, rfl, R_unmap toC rfl (fun h => h) hr1, R_unmap toX rfl (fun h => h) (Kd.S_R hr3)⟩, hb⟩
end Go.Proofs.Ytjehbnhjaogfkaa.Sc
end

section
namespace Go.Proofs.Ytjehbnhjaogfkaa.Sc
open Go.RowKit Go.Lib Go.Maps Go.WideAt Go.WideShapes Go.Proofs.YtjehbnhjaogfkaaW.PrintWords Go.Proofs.YtjehbnhjaogfkaaW.PrintLast Go.Proofs.YtjehbnhjaogfkaaW.PrintMore
open Go.Proofs.Ytjehbnhjaogfkaa
set_option linter.unusedVariables false
set_option linter.unusedSimpArgs false
/-- A block of n cells of type e. -/
def Bk (w : World) (k e n : Nat) : Prop := ∃ cur, w.heap[k]? = some (.cells cur e (0, 0)) ∧ cur.size = n
theorem Bk.lt {w : World} {k e n : Nat} (h : Bk w k e n) : k < w.heap.size := by
  obtain ⟨cur, h1, -⟩ := h
  exact blk_lt h1
theorem Bk.set {w : World} {k e n : Nat} (h : Bk w k e n) (j : Nat) (u : Value) : Bk (w.setCell ⟨k, j, none⟩ u) k e n := by
  obtain ⟨cur, h1, h2⟩ := h
  exact ⟨_, blk_put h1 j u rfl, by rw [Array.size_setIfInBounds]; exact h2⟩
theorem Bk.cell {w : World} {k e n : Nat} (h : Bk w k e n) {j : Nat} (hj : j < n) : ∃ u, w.cell? ⟨k, j, none⟩ = some u := by
  obtain ⟨cur, h1, h2⟩ := h
  exact ⟨cur[j]'(by omega), (blk_cell h1 j).trans (Array.getElem?_eq_getElem (by omega))⟩
theorem Bk.fz {w : World} {k e n : Nat} (h : Bk w k e n) (j : Nat) : w.frozen? ⟨k, j, none⟩ = false := by
  obtain ⟨cur, h1, h2⟩ := h
  exact blk_frozen h1 j
theorem Bk.ne {w : World} {k k' e e' n : Nat} (h : Bk w k e n) {cs : Array Value} (h' : w.heap[k']? = some (.cells cs e' (0, 0))) (he : e ≠ e') : k' ≠ k := fun e0 => by
  obtain ⟨cur, h1, -⟩ := h
  rw [e0, h1] at h'
  injection h' with h'
  injection h' with _ h'
  exact he h'
set_option maxRecDepth 100000 in
set_option maxHeartbeats 4000000 in
theorem spoilints_walk (W : World) (k n c : Nat) (hk : Bk W k 3 c) (hn : n ≤ c) (hc : c ≤ maxLen) :
    Calls Try.prog 43 #[.slice (some ⟨k, 0, none⟩) n c, .int .i64 (-7)] W fun e W' => e = .returned (.tuple #[]) ∧ Bk W' k 3 c ∧ Fr (Only k) W W' := by
  have HK := Aside0.mk hk
  have hc2 : c ≤ 9223372036854775807 := by unfold maxLen at hc; omega
  have hci : (c : Int) ≤ 9223372036854775807 := by omega
  clear hk
  go_enter Try.func43, Try.ntmps43
  go_wp2_with fail
  go_loopg [4] (c + 1) (fun kq v4 w' => ∃ j : Nat, v4 = .int .i64 (j : Int) ∧ Aside0 (j + kq = c + 1 ∧ j ≤ c) ∧ Aside0 (Bk w' k 3 c) ∧ Aside0 (Fr (Only k) W w'))
  case atStart => exact ⟨0, rfl, ⟨by omega, Nat.zero_le _⟩, HK, ⟨Fr.refl _ _⟩⟩
  case round =>
    clear HK
    obtain ⟨j, rfl, HJ, HB, HF⟩ := hrel
    by_cases hj : j < c
    · have hji : (j : Int) < (c : Int) := by omega
      obtain ⟨kq1, rfl⟩ : ∃ kq1, gk = kq1 + 1 := ⟨gk - 1, by have := HJ.out.1; omega⟩
      obtain ⟨u, x0⟩ := HB.out.cell hj
      have f0 := HB.out.fz j
      have HHj := Aside0.mk hj
      clear hj
      go_wp2_with fail
      go_roundg kq1
      case measure => have := HJ.out; omega
      case rel => exact ⟨j + 1, by go_num, ⟨by have := HJ.out; omega, by have := HHj.out; omega⟩, ⟨HB.out.set j _⟩, ⟨HF.out.set (p := ⟨k, j, none⟩) (.inl rfl) _⟩⟩
    · have hji : ¬ (j : Int) < (c : Int) := by omega
      clear hj
      go_wp2_with fail
      go_end0
      exact ⟨rfl, HB.out, HF.out⟩
theorem spoilints_nil (W : World) : Calls Try.prog 43 #[.slice none 0 0, .int .i64 (-7)] W fun e W' => e = .returned (.tuple #[]) ∧ W' = W := by
  go_enter Try.func43, Try.ntmps43
  go_wp2_with fail
  go_loopg [4] 1 (fun kq v4 w' => v4 = .int .i64 0 ∧ w' = W)
  case atStart => exact ⟨rfl, rfl⟩
  case round =>
    obtain ⟨rfl, rfl⟩ := hrel
    go_wp2_with fail
    go_end0
    exact ⟨rfl, rfl⟩
end Go.Proofs.Ytjehbnhjaogfkaa.Sc
end

section
namespace Go.Proofs.Ytjehbnhjaogfkaa.Sc
open Go.RowKit Go.Lib Go.Maps Go.WideAt Go.WideShapes Go.Proofs.YtjehbnhjaogfkaaW.PrintWords Go.Proofs.YtjehbnhjaogfkaaW.PrintLast Go.Proofs.YtjehbnhjaogfkaaW.PrintMore
open Go.Proofs.Ytjehbnhjaogfkaa
set_option linter.unusedVariables false
set_option linter.unusedSimpArgs false
/-! The shape of a schema's own rows: where its cells lie, whatever they hold. -/
def IntsAt (S : Nat → Prop) (w : World) (u : Value) : Prop := u = .slice none 0 0 ∨ ∃ k n c, u = .slice (some ⟨k, 0, none⟩) n c ∧ n ≤ c ∧ c ≤ maxLen ∧ Bk w k 3 c ∧ S k
def ColsAt (S : Nat → Prop) (w : World) (v : Value) (n : Nat) : Prop := (v = .slice none 0 0 ∧ n = 0) ∨ ∃ k c, v = .slice (some ⟨k, 0, none⟩) n c ∧ n ≤ c ∧ Bk w k 32 (c * 2) ∧ S k
def IxsAt (S : Nat → Prop) (w : World) (v : Value) (n : Nat) : Prop := (v = .slice none 0 0 ∧ n = 0) ∨ ∃ k c cur, v = .slice (some ⟨k, 0, none⟩) n c ∧ n ≤ c ∧ w.heap[k]? = some (.cells cur 67 (0, 0)) ∧ ∀ i, i < n → ∃ u, cur[i * 3 + 1]? = some u ∧ IntsAt S w u
theorem Bk.keep {w w' : World} {k k' e e' n n' : Nat} (h : Bk w k e n) (hk : Bk w k' e' n') (hk' : Bk w' k' e' n') (hf : Fr (Only k') w w') : Bk w' k e n := by
  by_cases e0 : k = k'
  · subst e0
    obtain ⟨c1, h1, h2⟩ := h
    obtain ⟨c2, h3, h4⟩ := hk
    rw [h1] at h3
    injection h3 with h3
    injection h3 with h5 h6 _
    subst h5 h6
    rw [← h2, h4]
    exact hk'
  · obtain ⟨c1, h1, h2⟩ := h
    exact ⟨c1, (hf.block k (blk_lt h1) e0).trans h1, h2⟩
theorem IntsAt.keep {S : Nat → Prop} {w w' : World} {k' e' n' : Nat} {u : Value} (h : IntsAt S w u) (hk : Bk w k' e' n') (hk' : Bk w' k' e' n') (hf : Fr (Only k') w w') : IntsAt S w' u := by
  rcases h with rfl | ⟨k, n, c, rfl, h1, h2, h3, h4⟩
  · exact .inl rfl
  · exact .inr ⟨k, n, c, rfl, h1, h2, h3.keep hk hk' hf, h4⟩
theorem ColsAt.keep {S : Nat → Prop} {w w' : World} {k' e' n' n : Nat} {v : Value} (h : ColsAt S w v n) (hk : Bk w k' e' n') (hk' : Bk w' k' e' n') (hf : Fr (Only k') w w') : ColsAt S w' v n := by
  rcases h with ⟨rfl, rfl⟩ | ⟨k, c, rfl, h1, h2, h3⟩
  · exact .inl ⟨rfl, rfl⟩
  · exact .inr ⟨k, c, rfl, h1, h2.keep hk hk' hf, h3⟩
theorem IxsAt.keep {S : Nat → Prop} {w w' : World} {k' e' n' n : Nat} {v : Value} (h : IxsAt S w v n) (hk : Bk w k' e' n') (hk' : Bk w' k' e' n') (hf : Fr (Only k') w w') (he : e' ≠ 67) : IxsAt S w' v n := by
  rcases h with ⟨rfl, rfl⟩ | ⟨k, c, cur, rfl, h1, h2, h3⟩
  · exact .inl ⟨rfl, rfl⟩
  · refine .inr ⟨k, c, cur, rfl, h1, (hf.block k (blk_lt h2) (hk.ne h2 he)).trans h2, fun i hi => ?_⟩
    obtain ⟨u, hu, hI⟩ := h3 i hi
    exact ⟨u, hu, hI.keep hk hk' hf⟩
theorem bk_below {w w' : World} {k e n : Nat} (h : Bk w k e n) (hb : Below w.heap.size w w') : Bk w' k e n := by
  obtain ⟨c1, h1, h2⟩ := h
  exact ⟨c1, blk_below h1 hb, h2⟩
theorem IntsAt.below {S : Nat → Prop} {w w' : World} {u : Value} (h : IntsAt S w u) (hb : Below w.heap.size w w') : IntsAt S w' u := by
  rcases h with rfl | ⟨k, n, c, rfl, h1, h2, h3, h4⟩
  · exact .inl rfl
  · exact .inr ⟨k, n, c, rfl, h1, h2, bk_below h3 hb, h4⟩
theorem ints_of_R {W : World} {base : Nat} {ok : Nat → Prop} {u : Value} {xs : List Int} (h : (Kd.int .i64).R 3 W base ok u xs) : IntsAt (fun x => ok x ∧ base ≤ x ∧ x < W.heap.size) W u := by
  obtain ⟨h0, inner, ho, hr⟩ := h
  rcases ho.2 with ⟨rfl, _⟩ | ⟨k, c, cur, rfl, hb, hh, h1, h2, h3, h4⟩
  · exact .inl rfl
  · exact .inr ⟨k, _, c, rfl, h1, h2, ⟨cur, hh, by rw [h3]; exact Nat.mul_one c⟩, h0 k rfl, hb, blk_lt hh⟩
theorem cols_of_R {W : World} {base : Nat} {ok : Nat → Prop} {v : Value} {l : List Col} (h : kcol.R 32 W base ok v l) : ColsAt (fun x => ok x ∧ base ≤ x ∧ x < W.heap.size) W v l.length := by
  obtain ⟨h0, inner, ho, hr⟩ := h
  rcases ho.2 with ⟨rfl, hn⟩ | ⟨k, c, cur, rfl, hb, hh, h1, h2, h3, h4⟩
  · exact .inl ⟨rfl, hn⟩
  · exact .inr ⟨k, c, rfl, h1, ⟨cur, hh, h3⟩, h0 k rfl, hb, blk_lt hh⟩
theorem kix_M {W : World} {base : Nat} {ok : Nat → Prop} {x : Ix} {cs : List Value} (h : kix.M W base ok x cs) : ∃ u, cs = [.string x.nm, u, .bool x.uq] ∧ (Kd.int .i64).R 3 W base ok u x.cols := by
  obtain ⟨_, _, rfl, rfl, ⟨_, _, rfl, ⟨u, rfl, g1⟩, rfl⟩⟩ := h
  exact ⟨u, rfl, g1⟩
theorem IntsAt.mono {S T : Nat → Prop} {w : World} {u : Value} (h : IntsAt S w u) (hS : ∀ k, S k → T k) : IntsAt T w u := by
  rcases h with rfl | ⟨k, n, c, rfl, h1, h2, h3, h4⟩
  · exact .inl rfl
  · exact .inr ⟨k, n, c, rfl, h1, h2, h3, hS k h4⟩
theorem ixs_of_R {W : World} {base : Nat} {ok : Nat → Prop} {v : Value} {l : List Ix} (h : kix.R 67 W base ok v l) : IxsAt (fun x => ok x ∧ base ≤ x ∧ x < W.heap.size) W v l.length := by
  obtain ⟨h0, inner, ho, hr⟩ := h
  rcases ho.2 with ⟨rfl, hn⟩ | ⟨k, c, cur, rfl, hb, hh, h1, h2, h3, h4⟩
  · exact .inl ⟨rfl, hn⟩
  · refine .inr ⟨k, c, cur, rfl, h1, hh, fun i hi => ?_⟩
    obtain ⟨u, hc, hR⟩ := kix_M (hr.2 i _ (List.getElem?_eq_getElem hi))
    refine ⟨u, ?_, (ints_of_R hR).mono fun x hx => ⟨hx.1.1, hx.2⟩⟩
    have e1 : ((inner.drop (i * 3)).take 3)[1]? = some u := by
      have : ((inner.drop (i * kix.sz)).take kix.sz)[1]? = some u := by rw [hc]; rfl
      exact this
    rw [List.getElem?_take_of_lt (by decide), List.getElem?_drop, ← h4, List.getElem?_take_of_lt (by show i * 3 + 1 < l.length * 3; omega), Array.getElem?_toList] at e1
    exact e1
/-- What stands while a schema is spoilt. -/
structure SP (S : Nat → Prop) (W w : World) (g : Nat) (nm : ByteArray) (key : Int) (v1 v3 : Value) (n1 n3 : Nat) : Prop where
  bx : TbBox w g (.string nm) v1 (.int .i64 key) v3
  cl : ColsAt S w v1 n1
  ix : IxsAt S w v3 n3
  fr : Fr S W w
theorem SP.step {S : Nat → Prop} {W w w' : World} {g k e n : Nat} {nm : ByteArray} {key : Int} {v1 v3 : Value} {n1 n3 : Nat} (h : SP S W w g nm key v1 v3 n1 n3) (hk : Bk w k e n) (hk' : Bk w' k e n) (hf : Fr (Only k) w w') (he : e ≠ 67) (hS : S k) (hg : g ≠ k) : SP S W w' g nm key v1 v3 n1 n3 :=
  ⟨h.bx.fr hf hg, h.cl.keep hk hk' hf, h.ix.keep hk hk' hf he, h.fr.trans (hf.mono fun x hx => by unfold Only at hx; subst hx; exact hS)⟩
set_option maxRecDepth 100000 in
set_option maxHeartbeats 4000000 in
theorem spoil_walk (ok : Nat → Prop) (base : Nat) (W : World) (v : Value) (t : Tb) (h : OwnTb ok base W v t) :
    Calls Try.prog 23 #[v] W fun e W' => e = .returned (.tuple #[]) ∧ Fr (fun x => ok x ∧ base ≤ x ∧ x < W.heap.size) W W' := by
  obtain ⟨v1, v3, rfl, h1, h3⟩ := h
  obtain ⟨A1, c1, e1⟩ := Kd.R_slice h1
  obtain ⟨A3, c3, e3⟩ := Kd.R_slice h3
  obtain ⟨S, hS⟩ : ∃ S, S = fun x => ok x ∧ base ≤ x ∧ x < W.heap.size := ⟨_, rfl⟩
  have hm1 : t.cols.length ≤ 9223372036854775807 := by obtain ⟨_, _, _, _, hc⟩ := Kd.R_reads h1; exact hc.2.1
  have hm3 : t.ixs.length ≤ 9223372036854775807 := by obtain ⟨_, _, _, _, hc⟩ := Kd.R_reads h3; exact hc.2.1
  have k1 := cols_of_R h1
  have k3 := ixs_of_R h3
  rw [← hS] at k1 k3 ⊢
  have HS := Aside0.mk (show ∀ k, S k → k < W.heap.size from fun k hk => by rw [hS] at hk; exact hk.2.2)
  obtain ⟨g, hg⟩ : ∃ g, W.heap.size = g := ⟨_, rfl⟩
  obtain ⟨nm, cols, key, ixs⟩ := t
  simp only at h1 h3 e1 e3 k1 k3 hm1 hm3 ⊢
  obtain ⟨n1, hn1⟩ : ∃ n, cols.length = n := ⟨_, rfl⟩
  obtain ⟨n3, hn3⟩ : ∃ n, ixs.length = n := ⟨_, rfl⟩
  have hal := below_alloc (Below.refl W.heap.size W) (.cells #[.string nm, v1, .int .i64 key, v3] 30)
  have HG := Aside0.mk hg
  have hsp : SP S W (W.alloc (.cells #[.string nm, v1, .int .i64 key, v3] 30)) g nm key v1 v3 n1 n3 := by
    refine ⟨hg ▸ tbBox_made W _ _ _ _ _, ?_, ?_, Fr.of_below hal⟩
    · rw [← hn1]
      rcases k1 with ⟨q1, q2⟩ | ⟨k, c, q1, q2, q3, q4⟩
      · exact .inl ⟨q1, q2⟩
      · exact .inr ⟨k, c, q1, q2, bk_below q3 hal, q4⟩
    · rw [← hn3]
      rcases k3 with ⟨q1, q2⟩ | ⟨k, c, cur, q1, q2, q3, q4⟩
      · exact .inl ⟨q1, q2⟩
      · refine .inr ⟨k, c, cur, q1, q2, blk_below q3 hal, fun i hi => ?_⟩
        obtain ⟨u, hu, hI⟩ := q4 i hi
        exact ⟨u, hu, hI.below hal⟩
  rw [hn1] at e1 hm1
  rw [hn3] at e3 hm3
  subst e1 e3
  have HP := Aside0.mk hsp
  clear hsp hal k1 k3 h1 h3 hS hn1 hn3
  go_enter Try.func23, Try.ntmps23
  go_upto_region 1 with fail
  clear hg
  generalize W.alloc (.cells #[.string nm, .slice A1 n1 c1, .int .i64 key, .slice A3 n3 c3] 30) = w0 at *
  have p1 := HP.out.bx.c1
  go_wp2_with fail
  go_loopg [2] (n1 + 1) (fun kq v2 w' => ∃ j : Nat, v2 = .int .i64 (j : Int) ∧ Aside0 (j + kq = n1 + 1 ∧ j ≤ n1) ∧ Aside0 (SP S W w' g nm key (.slice A1 n1 c1) (.slice A3 n3 c3) n1 n3))
  case atStart => exact ⟨0, rfl, ⟨by omega, Nat.zero_le _⟩, HP⟩
  case round =>
    clear HP p1
    obtain ⟨j, rfl, HJ, HP⟩ := hrel
    have p1 := HP.out.bx.c1
    by_cases hj : j < n1
    · have hji : (j : Int) < (n1 : Int) := by omega
      obtain ⟨kq1, rfl⟩ : ∃ kq1, gk = kq1 + 1 := ⟨gk - 1, by have := HJ.out.1; omega⟩
      obtain ⟨k, q1, q2, q3, q4⟩ : ∃ k, A1 = some ⟨k, 0, none⟩ ∧ n1 ≤ c1 ∧ Bk wr k 32 (c1 * 2) ∧ S k := by
        rcases HP.out.cl with ⟨q1, q2⟩ | ⟨k, c, q1, q2, q3, q4⟩
        · omega
        · injection q1 with r1 r2 r3
          subst r3
          exact ⟨k, r1, q2, q3, q4⟩
      subst q1
      obtain ⟨u0, x0⟩ := q3.cell (j := j * 2) (by omega)
      obtain ⟨u1, x1⟩ := q3.cell (j := j * 2 + 1) (by omega)
      have f0 := q3.fz (j * 2)
      have f1 := q3.fz (j * 2 + 1)
      have HB := Aside0.mk q3
      have HSk := Aside0.mk q4
      have HHj := Aside0.mk hj
      have HPn := Aside0.mk (fun (a b : Value) => HP.out.step q3 ((q3.set (j * 2) a).set (j * 2 + 1) b) (((Fr.refl (Only k) wr).set (p := ⟨k, j * 2, none⟩) (.inl rfl) a).set (p := ⟨k, j * 2 + 1, none⟩) (.inl rfl) b) (by decide) q4 (fun e => by have := HS.out k q4; have := HG.out; omega))
      clear hj q3 q4
      go_wp2_with fail
      go_roundg kq1
      case measure => have := HJ.out; omega
      case rel => exact ⟨j + 1, by go_num, ⟨by have := HJ.out; omega, by have := HHj.out; omega⟩, ⟨HPn.out _ _⟩⟩
    · have hji : ¬ (j : Int) < (n1 : Int) := by omega
      have p3 := HP.out.bx.c3
      clear hj HJ
      go_wp2_with fail
      clear p1 p3
      go_loopg [3] (n3 + 1) (fun kq v3 w' => ∃ j : Nat, v3 = .int .i64 (j : Int) ∧ Aside0 (j + kq = n3 + 1 ∧ j ≤ n3) ∧ Aside0 (SP S W w' g nm key (.slice A1 n1 c1) (.slice A3 n3 c3) n1 n3))
      case atStart => exact ⟨0, rfl, ⟨by omega, Nat.zero_le _⟩, HP⟩
      case round =>
        clear HP
        obtain ⟨j, rfl, HJ, HP⟩ := hrel
        have p3 := HP.out.bx.c3
        by_cases hj : j < n3
        · have hji : (j : Int) < (n3 : Int) := by omega
          obtain ⟨kq1, rfl⟩ : ∃ kq1, gk = kq1 + 1 := ⟨gk - 1, by have := HJ.out.1; omega⟩
          obtain ⟨k3, u, q1, q2, x1, q4⟩ : ∃ k3 u, A3 = some ⟨k3, 0, none⟩ ∧ n3 ≤ c3 ∧ wr.cell? ⟨k3, j * 3 + 1, none⟩ = some u ∧ IntsAt S wr u := by
            rcases HP.out.ix with ⟨q1, q2⟩ | ⟨k, c, cur, q1, q2, q3, q4⟩
            · omega
            · injection q1 with r1 r2 r3
              subst r3
              obtain ⟨u, hu, hI⟩ := q4 j hj
              exact ⟨k, u, r1, q2, (blk_cell q3 _).trans hu, hI⟩
          subst q1
          have HHj := Aside0.mk hj
          clear hj
          rcases q4 with rfl | ⟨k, m, c, rfl, h1, h2, h3, h4⟩
          · go_wp2_with (go_at_call 43; refine (spoilints_nil _).mono ?_; rintro e w5 ⟨rfl, rfl⟩)
            go_roundg kq1
            case measure => have := HJ.out; omega
            case rel => exact ⟨j + 1, by go_num, ⟨by have := HJ.out; omega, by have := HHj.out; omega⟩, HP⟩
          · have HQ := Aside0.mk (show m ≤ c ∧ c ≤ maxLen ∧ Bk wr k 3 c ∧ S k from ⟨h1, h2, h3, h4⟩)
            clear h1 h2 h3 h4
            go_wp2_with (go_at_call 43; refine (spoilints_walk wr k m c HQ.out.2.2.1 HQ.out.1 HQ.out.2.1).mono ?_; rintro e w5 ⟨rfl, hb5, hf5⟩; have HPn := Aside0.mk (HP.out.step HQ.out.2.2.1 hb5 hf5 (by decide) HQ.out.2.2.2 (fun e => by have := HS.out k HQ.out.2.2.2; have := HG.out; omega)); clear hb5 hf5)
            go_roundg kq1
            case measure => have := HJ.out; omega
            case rel => exact ⟨j + 1, by go_num, ⟨by have := HJ.out; omega, by have := HHj.out; omega⟩, HPn⟩
        · have hji : ¬ (j : Int) < (n3 : Int) := by omega
          clear hj
          go_wp2_with fail
          go_end0
          exact ⟨rfl, HP.out.fr⟩
end Go.Proofs.Ytjehbnhjaogfkaa.Sc
end

section
namespace Go.Proofs.Ytjehbnhjaogfkaa.Sc
open Go.RowKit Go.Lib Go.Maps Go.WideAt Go.WideShapes Go.Proofs.YtjehbnhjaogfkaaW.PrintWords Go.Proofs.YtjehbnhjaogfkaaW.PrintLast Go.Proofs.YtjehbnhjaogfkaaW.PrintMore
open Go.Proofs.Ytjehbnhjaogfkaa
set_option linter.unusedVariables false
set_option linter.unusedSimpArgs false
/-- What the document's Find gives. -/
def RFind (W : World) (r : Option Tb) (e : Ending) (w' : World) : Prop :=
  match r with
  | none => e = .returned (.tuple #[zt, .int .i64 141])
  | some t => ∃ v, e = .returned (.tuple #[v, .int .i64 0]) ∧ OwnTb (fun _ => True) W.heap.size w' v t
theorem getK_some {K : FM.T Tb} (hs : FL.St K) {k : FM.Key} {t : Tb} (h : FM.get K k = some t) : ∃ hi : FL.pl K k < K.length, K[FL.pl K k] = (k, t) := by
  rw [FL.get_pl K hs k] at h
  rcases Nat.lt_or_ge (FL.pl K k) K.length with hi | hi
  · refine ⟨hi, ?_⟩
    rw [List.getElem?_eq_getElem hi] at h
    by_cases e : (K[FL.pl K k]).1 = k
    · simp [e] at h
      exact Prod.ext e h
    · simp [e] at h
  · rw [List.getElem?_eq_none hi] at h
    cases h
theorem copy_small (W : World) (t : Tb) (A : Option Addr) (ca : Nat) (B : Option Addr) (cb : Nat) (hA : kcol.C W A t.cols.length t.cols) (hca : t.cols.length ≤ ca) (hB : kix.C W B t.ixs.length t.ixs) (hcb : t.ixs.length ≤ cb) (hck : chk t = true) :
    Calls Try.prog 21 #[.agg #[.string t.nm, .slice A t.cols.length ca, .int .i64 t.key, .slice B t.ixs.length cb]] W fun e w' => ∃ v, e = .returned v ∧ OwnTb (fun _ => True) W.heap.size w' v t ∧ Below W.heap.size W w' := by
  obtain ⟨s1, s2⟩ := chk_small hck
  exact copy_walk W t A ca B cb hA hca hB hcb (Nat.lt_of_le_of_lt s1.cl (by decide)) (Nat.lt_of_le_of_lt s1.il (by decide)) (fun x hx => Nat.lt_of_le_of_lt (s1.ixs x hx).2.1 (by decide))
set_option maxRecDepth 100000 in
set_option maxHeartbeats 8000000 in
theorem dfind_walk (ok : Nat → Prop) (W : World) (h : Nat) (K : FM.T Tb) (hk : RK ok W h K) (s : ByteArray) :
    Calls Try.prog 25 #[.pointer (some ⟨h, 0, none⟩), .string s] W fun e w' => RFind W (FM.get K s.data.toList) e w' ∧ Below W.heap.size W w' := by
  obtain ⟨q, hq⟩ : ∃ q, W.heap.size = q := ⟨_, rfl⟩
  have hal := below_alloc (Below.refl W.heap.size W) (.cells #[.string ⟨#[]⟩, .slice none 0 0, .int .i64 0, .slice none 0 0] 30)
  have HX := Aside0.mk (show TbBox (W.alloc (.cells #[.string ⟨#[]⟩, .slice none 0 0, .int .i64 0, .slice none 0 0] 30)) q (.string ⟨#[]⟩) (.slice none 0 0) (.int .i64 0) (.slice none 0 0) from hq ▸ tbBox_made W _ _ _ _ _)
  have HK := Aside0.mk (hk.below hal)
  have HB := Aside0.mk hal
  have HQ := Aside0.mk hq
  clear hk hal
  obtain ⟨r, hr⟩ : ∃ r, FM.get K s.data.toList = r := ⟨_, rfl⟩
  have HR := Aside0.mk hr
  rw [hr]
  clear hr
  go_enter Try.func25, Try.ntmps25
  go_upto_region 1 with fail
  clear hq
  generalize W.alloc (.cells #[.string ⟨#[]⟩, .slice none 0 0, .int .i64 0, .slice none 0 0] 30) = w0 at *
  go_upto_region 2 with (go_at_call 42; refine (dplace_walk ok w0 h K HK.out s).mono ?_; rw [HR.out]; rintro e w1 ⟨rfl, hb1⟩; have HK1 := Aside0.mk (HK.out.below hb1); have HB1 := Aside0.mk (step HB.out hb1); have HX1 := Aside0.mk (HX.out.keep hb1 HX.out.lt); clear hb1)
  clear HK HB HX
  have f0 := HX1.out.fz 0
  have f1 := HX1.out.fz 1
  have f2 := HX1.out.fz 2
  have f3 := HX1.out.fz 3
  have d0 := HX1.out.c0
  have d1 := HX1.out.c1
  have d2 := HX1.out.c2
  have d3 := HX1.out.c3
  cases r with
  | none =>
    go_wp2_with fail
    have HZ := Aside0.mk ((((HX1.out.set0 (.string ⟨#[]⟩)).set1 (.slice none 0 0)).set2 (.int .i64 0)).set3 (.slice none 0 0))
    have HBz := Aside0.mk (below_set (below_set (below_set (below_set HB1.out (show W.heap.size ≤ q from Nat.le_of_eq HQ.out) (j := 0) (v := .string ⟨#[]⟩)) (show W.heap.size ≤ q from Nat.le_of_eq HQ.out) (j := 1) (v := .slice none 0 0)) (show W.heap.size ≤ q from Nat.le_of_eq HQ.out) (j := 2) (v := .int .i64 0)) (show W.heap.size ≤ q from Nat.le_of_eq HQ.out) (j := 3) (v := .slice none 0 0))
    clear f0 f1 f2 f3 d0 d1 d2 d3
    generalize (((w1.setCell ⟨q, 0, none⟩ (.string ⟨#[]⟩)).setCell ⟨q, 1, none⟩ (.slice none 0 0)).setCell ⟨q, 2, none⟩ (.int .i64 0)).setCell ⟨q, 3, none⟩ (.slice none 0 0) = wz at *
    have z0 := HZ.out.c0
    have z1 := HZ.out.c1
    have z2 := HZ.out.c2
    have z3 := HZ.out.c3
    refine bodyPost_ret (v := .tuple #[zt, .int .i64 141]) (by first | (go_simp; done) | (simp [results, Try.f25, go_sem, z0, z1, z2, z3]; done) | (simp [results, Try.f25, go_sem, z0, z1, z2, z3]; rfl)) rfl ?_
    exact ⟨rfl, HBz.out⟩
  | some t =>
    obtain ⟨hi, hKi⟩ := getK_some HK1.out.st HR.out
    obtain ⟨i, hip⟩ : ∃ i, FL.pl K s.data.toList = i := ⟨_, rfl⟩
    have hi' : i < K.length := hip ▸ hi
    have hti : (vl K)[i]'(by rw [vl_len]; exact hi') = t := by
      rw [vl_at hi']
      subst hip
      rw [hKi]
    have hck : chk t = true := by
      have := HK1.out.ck _ (List.getElem_mem hi)
      rw [hKi] at this
      exact this
    obtain ⟨v, hv, hrow⟩ := HK1.out.row
    obtain ⟨A, ca, rfl, hca, hC⟩ := Kd.R_reads hrow
    obtain ⟨ad, B, cb, D, cd, rfl, x0, x1, x2, x3, q1, q2, q3, q4⟩ := tb_at hC i (by rw [vl_len]; exact hi')
    rw [hti] at x0 x1 x2 x3 q1 q2 q3 q4
    have y1 := far_cell x1
    have y2 := far_cell x2
    have y3 := far_cell x3
    have c0 := (blk_cell hv 0).trans (show _ = some (Value.slice (some ad) (vl K).length ca) from rfl)
    rw [vl_len] at c0
    have hji : (i : Int) < (K.length : Int) := by omega
    have hml := HK1.out.len
    have HC := Aside0.mk (copy_small w1 t B cb D cd q2 q1 q4 q3 hck)
    clear hi hKi hti hck hv hrow hca hC q1 q2 q3 q4 hi' x1 x2 x3
    rw [hip]
    clear hip
    go_wp2_with (go_at_call 21; refine HC.out.mono ?_; rintro e w2 ⟨v2, rfl, ⟨u1, u3, rfl, hR1, hR3⟩, hb2⟩; obtain ⟨U1, k1, rfl⟩ := Kd.R_slice hR1; obtain ⟨U3, k3, rfl⟩ := Kd.R_slice hR3; have HR1 := Aside0.mk hR1; have HR3 := Aside0.mk hR3; have HB2 := Aside0.mk (step HB1.out hb2); have HX2 := Aside0.mk (HX1.out.keep hb2 HX1.out.lt); have g0 := HX2.out.fz 0; have g1 := HX2.out.fz 1; have g2 := HX2.out.fz 2; have g3 := HX2.out.fz 3; have b0 := HX2.out.c0; have b1 := HX2.out.c1; have b2 := HX2.out.c2; have b3 := HX2.out.c3; have HLq := Aside0.mk HX1.out.lt; clear hR1 hR3 hb2)
    have HZ := Aside0.mk ((((HX2.out.set0 (.string t.nm)).set1 (.slice U1 t.cols.length k1)).set2 (.int .i64 t.key)).set3 (.slice U3 t.ixs.length k3))
    have HBz := Aside0.mk (below_set (below_set (below_set (below_set HB2.out (show W.heap.size ≤ q from Nat.le_of_eq HQ.out) (j := 0) (v := .string t.nm)) (show W.heap.size ≤ q from Nat.le_of_eq HQ.out) (j := 1) (v := (.slice U1 t.cols.length k1))) (show W.heap.size ≤ q from Nat.le_of_eq HQ.out) (j := 2) (v := .int .i64 t.key)) (show W.heap.size ≤ q from Nat.le_of_eq HQ.out) (j := 3) (v := (.slice U3 t.ixs.length k3)))
    have HRz := Aside0.mk (R_put (R_put (R_put (R_put HR1.out HLq.out 0 (.string t.nm)) HLq.out 1 (.slice U1 t.cols.length k1)) HLq.out 2 (.int .i64 t.key)) HLq.out 3 (.slice U3 t.ixs.length k3))
    have HNz := Aside0.mk (R_put (R_put (R_put (R_put HR3.out HLq.out 0 (.string t.nm)) HLq.out 1 (.slice U1 t.cols.length k1)) HLq.out 2 (.int .i64 t.key)) HLq.out 3 (.slice U3 t.ixs.length k3))
    clear f0 f1 f2 f3 d0 d1 d2 d3 g0 g1 g2 g3 b0 b1 b2 b3
    generalize (((w2.setCell ⟨q, 0, none⟩ (.string t.nm)).setCell ⟨q, 1, none⟩ (.slice U1 t.cols.length k1)).setCell ⟨q, 2, none⟩ (.int .i64 t.key)).setCell ⟨q, 3, none⟩ (.slice U3 t.ixs.length k3) = wz at *
    have z0 := HZ.out.c0
    have z1 := HZ.out.c1
    have z2 := HZ.out.c2
    have z3 := HZ.out.c3
    refine bodyPost_ret (v := .tuple #[.agg #[.string t.nm, (.slice U1 t.cols.length k1), .int .i64 t.key, (.slice U3 t.ixs.length k3)], .int .i64 0]) (by first | (go_simp; done) | (simp [results, Try.f25, go_sem, z0, z1, z2, z3]; done) | (simp [results, Try.f25, go_sem, z0, z1, z2, z3]; rfl)) rfl ?_
    have hle := HB1.out.size
    exact ⟨⟨_, rfl, _, _, rfl, Kd.R_lower HRz.out hle, Kd.R_lower HNz.out hle⟩, HBz.out⟩
end Go.Proofs.Ytjehbnhjaogfkaa.Sc
end

section
namespace Go.Proofs.Ytjehbnhjaogfkaa.Sc
open Go.RowKit Go.Lib Go.Maps Go.WideAt Go.WideShapes Go.Proofs.YtjehbnhjaogfkaaW.PrintWords Go.Proofs.YtjehbnhjaogfkaaW.PrintLast Go.Proofs.YtjehbnhjaogfkaaW.PrintMore
open Go.Proofs.Ytjehbnhjaogfkaa
set_option linter.unusedVariables false
set_option linter.unusedSimpArgs false
/-! Pieces of the document's list of schemas. -/
theorem rows_shape {W : World} {base : Nat} {ok : Nat → Prop} {v : Value} {L : List Tb} (h : ktb.R 30 W base ok v L) : ∃ A c, v = .slice A L.length c ∧ L.length ≤ c ∧ c ≤ 9223372036854775807 ∧ ∀ p, p < L.length → ∃ g, A = some ⟨g, 0, none⟩ := by
  obtain ⟨h0, inner, ho, hr⟩ := h
  rcases ho.2 with ⟨rfl, hn⟩ | ⟨g, c, cur, rfl, hb, hh, h1, h2, h3, h4⟩
  · exact ⟨none, 0, by rw [hn], by omega, by omega, fun p hp => by omega⟩
  · exact ⟨_, c, rfl, h1, h2, fun p hp => ⟨g, rfl⟩⟩
theorem tb_reads {W : World} {base n c : Nat} {ok : Nat → Prop} {A : Option Addr} {L : List Tb} (h : ktb.R 30 W base ok (.slice A n c) L) : ReadsRow (ktb.M W base (fun k => ok k ∧ k < W.heap.size)) ktb.sz W A L.length L := by
  obtain ⟨A', c', e, hl, hr⟩ := OwnRow.reads (Kd.R_bound h).2
  injection e with e1 e2 e3
  subst e1
  exact hr.imp_ (Below.refl _ _) (fun _ _ hp => ktb.M_mono (fun k hk => ⟨hk.1.1, hk.1.2.2.1⟩) hp)
theorem reads_take {P : Tb → List Value → Prop} {W : World} {A : Option Addr} {p : Nat} {L : List Tb} (h : ReadsRow P ktb.sz W A L.length L) (hp : p ≤ L.length) : ReadsRow P ktb.sz W A p (L.take p) := by
  refine ⟨by rw [List.length_take]; omega, by have := h.2.1; omega, fun h0 => ?_⟩
  obtain ⟨ad, e, hc⟩ := h.2.2 (by omega)
  refine ⟨ad, e, fun j q hj => hc j q ?_⟩
  rw [List.getElem?_take] at hj
  split at hj
  · exact hj
  · cases hj
theorem reads_drop {P : Tb → List Value → Prop} {W : World} {g p k o : Nat} {L : List Tb} (h : ReadsRow P ktb.sz W (some ⟨g, 0, none⟩) L.length L) (hp : p ≤ L.length) (hk : k = L.length - p) (ho : o = p * 4 ∨ k = 0) : ReadsRow P ktb.sz W (some ⟨g, o, none⟩) k (L.drop p) := by
  refine ⟨by rw [List.length_drop]; exact hk.symm, by have := h.2.1; omega, fun hk0 => ?_⟩
  obtain ⟨ad, e, hc⟩ := h.2.2 (by omega)
  injection e with e
  refine ⟨_, rfl, fun j q hj => ?_⟩
  have ho' : o = p * 4 := by omega
  rw [List.getElem?_drop] at hj
  obtain ⟨cs, hl, hK, hcell⟩ := hc (p + j) q hj
  refine ⟨cs, hl, hK, fun i u hu => ?_⟩
  have := hcell i u hu
  rw [← e, WideShapes.add_plain, Nat.zero_add] at this
  subst ho'
  rw [WideShapes.add_plain, show p * 4 + (j * ktb.sz + i) = (p + j) * ktb.sz + i by show p * 4 + (j * 4 + i) = (p + j) * 4 + i; omega]
  exact this
theorem rk_end {ok : Nat → Prop} {W w4 : World} {h : Nat} {K K' : FM.T Tb} {v4 : Value} (k : RK ok W h K) (hb : Below W.heap.size W w4) (hr : ktb.R 30 w4 (h + 1) (fun x => ok x ∨ W.heap.size ≤ x) v4 (vl K'))
    (hst : FL.St K') (hnm : ∀ p ∈ K', p.1 = p.2.nm.data.toList) (hl : K'.length ≤ 4096) (hck : ∀ p ∈ K', chk p.2 = true) :
    RK (fun x => ok x ∨ W.heap.size ≤ x) (w4.setCell ⟨h, 0, none⟩ v4) h K' ∧ Fr (Only h) W (w4.setCell ⟨h, 0, none⟩ v4) := by
  obtain ⟨v, h1, -⟩ := k.row
  exact ⟨⟨⟨v4, blk_put ((hb.block h k.lt).trans h1) 0 v4 rfl, R_put hr (Nat.lt_succ_self h) 0 v4⟩, hst, hnm, hl, hck⟩, (Fr.of_below (S := Only h) hb).set (p := ⟨h, 0, none⟩) (.inl rfl) v4⟩
theorem RK.weak {ok : Nat → Prop} {W : World} {h n : Nat} {K : FM.T Tb} (k : RK ok W h K) : RK (fun x => ok x ∨ n ≤ x) W h K := k.mono fun x hx _ => .inl hx
theorem vl_del {K : FM.T Tb} (hs : FL.St K) {k : FM.Key} {t : Tb} (h : FM.get K k = some t) : vl (FM.del K k) = (vl K).take (FL.pl K k) ++ (vl K).drop (FL.pl K k + 1) := by
  rw [(FL.del_old K hs k t h).1]
  simp [vl, List.map_append, List.map_take, List.map_drop]
def zTb : Value := .agg #[.string ⟨#[]⟩, .slice none 0 0, .int .i64 0, .slice none 0 0]
set_option maxRecDepth 100000 in
set_option maxHeartbeats 8000000 in
theorem ddrop_walk (ok : Nat → Prop) (W : World) (h : Nat) (K : FM.T Tb) (hk : RK ok W h K) (s : ByteArray) :
    Calls Try.prog 24 #[.pointer (some ⟨h, 0, none⟩), .string s] W fun e w' => e = .returned (.int .i64 (if (FM.get K s.data.toList).isSome then 0 else 141)) ∧ RK (fun x => ok x ∨ W.heap.size ≤ x) w' h (FM.del K s.data.toList) ∧ Fr (Only h) W w' := by
  have HK := Aside0.mk hk
  obtain ⟨r, hr⟩ : ∃ r, FM.get K s.data.toList = r := ⟨_, rfl⟩
  have HR := Aside0.mk hr
  rw [hr]
  clear hk hr
  cases r with
  | none =>
    have HZ := Aside0.mk (fun w1 (hb1 : Below W.heap.size W w1) => (show RK (fun x => ok x ∨ W.heap.size ≤ x) w1 h (FM.del K s.data.toList) ∧ Fr (Only h) W w1 from by rw [FL.del_none HR.out]; exact ⟨(HK.out.below hb1).weak, Fr.of_below hb1⟩))
    go_enter Try.func24, Try.ntmps24
    go_wp2_with (go_at_call 42; refine (dplace_walk ok W h K HK.out s).mono ?_; rw [HR.out]; rintro e w1 ⟨rfl, hb1⟩; have HB1 := Aside0.mk hb1; clear hb1)
    go_ret
    exact ⟨rfl, HZ.out w1 HB1.out⟩
  | some t =>
    obtain ⟨hi, hKi⟩ := getK_some HK.out.st HR.out
    obtain ⟨p, hp⟩ : ∃ p, FL.pl K s.data.toList = p := ⟨_, rfl⟩
    have hpl : p < K.length := hp ▸ hi
    have hvd := vl_del HK.out.st HR.out
    rw [hp] at hvd
    have HV := Aside0.mk hvd
    have HP := Aside0.mk hp
    have hml := HK.out.len
    obtain ⟨v, hv, hrow⟩ := HK.out.row
    obtain ⟨A, c, rfl, hc, hcm, hat⟩ := rows_shape hrow
    obtain ⟨g, rfl⟩ := hat p (by rw [vl_len]; exact hpl)
    have hll := vl_len K
    rw [hll] at hc
    have HRow := Aside0.mk hrow
    have HCb := Aside0.mk hv
    have q1 : (p : Int) ≤ (c : Int) := by omega
    have q2 : (p : Int) + 1 ≤ (c : Int) := by omega
    have q3 : (p : Int) + 1 ≤ (K.length : Int) := by omega
    clear hi hKi hvd hp hv hrow hat
    by_cases hca : c = p + 1
    all_goals (try subst hca)
    all_goals (
      go_enter Try.func24, Try.ntmps24
      go_upto_region 4 with (go_at_call 42; refine (dplace_walk ok W h K HK.out s).mono ?_; rw [HR.out, HP.out]; rintro e w1 ⟨rfl, hb1⟩; have HB1 := Aside0.mk hb1; have HR1 := Aside0.mk (Kd.R_below HRow.out hb1); have HC1 := Aside0.mk (blk_below HCb.out hb1); have HO1 := Aside0.mk hb1.size; clear hb1)
      have c1 := (blk_cell HC1.out 0).trans (show _ = some (Value.slice (some ⟨g, 0, none⟩) (vl K).length _) from rfl)
      have HH1 := Aside0.mk (show h + 1 ≤ w1.heap.size from blk_lt HC1.out)
      rw [hll] at c1
      go_wp2_with (first
        | ((with_reducible refine gate_builtin (b := .append) (xs := #[.tmp 16, .tmp 22]) rfl ?_); at_builtin; refine Kd.R_append_rows ktb (Rr := ktb.M w1 (h + 1) (fun k => ok k ∧ k < W.heap.size)) (w0 := w1) (h + 1) rfl (.tmp 16) (.tmp 22) 22 30 zt 72 rfl Try.underlying22 info30 rfl (show 0 < 4 from by decide) (by decide) (.slice none 0 0) [] ((vl K).take p) (some ⟨g, 0, none⟩) p _ (fun x => ok x ∨ W.heap.size ≤ x) (fun k => ok k ∧ k < W.heap.size) rfl rfl (Kd.R_nil _ _ _ _ _) (reads_take ((tb_reads HRow.out).imp_ HB1.out fun _ _ hp => Kd.M_below hp HB1.out) (by omega)) (fun _ _ hh => hh) (fun _ hk => ⟨.inl hk.1, by simp [Value.ownBlock]⟩) (fun _ hk => .inr (Nat.le_trans HO1.out hk)) (Below.refl _ _) HH1.out (by simp only [List.length_nil]; omega) ?_; intro v3 w3 hr_ hb_ hg_ hat_; have HB3 := Aside0.mk (show Below w1.heap.size w1 w3 from ⟨hg_.os, hg_.tape, hg_.output, hg_.size, fun k hk => hg_.block k hk (by simp [Value.ownBlock])⟩); have HR3 := Aside0.mk hr_; have HV3 := Aside0.mk (show ∀ k, v3.ownBlock = some k → w1.heap.size ≤ k from fun k hk => by rcases hat_ with e | ⟨b, e, hb⟩ <;> rw [e] at hk <;> simp [Value.ownBlock] at hk <;> omega); have c3 := (blk_cell (blk_below HC1.out HB3.out) 0).trans (show _ = some (Value.slice (some ⟨g, 0, none⟩) (vl K).length _) from rfl); rw [hll] at c3; clear hr_ hb_ hg_ hat_)
        | ((with_reducible refine gate_builtin (b := .append) (xs := #[.tmp 25, .tmp 32]) rfl ?_); at_builtin; refine Kd.R_append_rows ktb (Rr := ktb.M w3 (h + 1) (fun k => ok k ∧ k < W.heap.size)) (w0 := w3) (h + 1) rfl (.tmp 25) (.tmp 32) 22 30 zt 72 rfl Try.underlying22 info30 rfl (show 0 < 4 from by decide) (by decide) _ _ ((vl K).drop (p + 1)) _ _ _ (fun x => ok x ∨ W.heap.size ≤ x) (fun k => ok k ∧ k < W.heap.size) rfl rfl HR3.out (reads_drop ((tb_reads HRow.out).imp_ (step HB1.out HB3.out) fun _ _ hp => Kd.M_below hp (step HB1.out HB3.out)) (by omega) (by omega) (by omega)) (fun _ _ hh => hh) (fun k hk => ⟨.inl hk.1, fun e => by have := HV3.out k e.symm; have := HO1.out; have := hk.2; omega⟩) (fun _ hk => .inr (Nat.le_trans (Nat.le_trans HO1.out HB3.out.size) hk)) (Below.refl _ _) (Nat.le_trans HH1.out HB3.out.size) (by simp only [List.nil_append, List.length_take]; omega) ?_; intro v4 w4 hr_ hb_ hg_ _; obtain ⟨A4, c4, rfl⟩ := Kd.R_slice hr_; obtain ⟨n4, hn4⟩ : ∃ n4, ([] ++ (vl K).take p ++ (vl K).drop (p + 1)).length = n4 := ⟨_, rfl⟩; rw [hn4] at hr_ ⊢; clear hn4; have HB4 := Aside0.mk (show Below w1.heap.size w1 w4 from ⟨hg_.os.trans HB3.out.os, hg_.tape.trans HB3.out.tape, hg_.output.trans HB3.out.output, Nat.le_trans HB3.out.size hg_.size, fun k hk => (hg_.block k (Nat.lt_of_lt_of_le hk HB3.out.size) (fun e => by have := HV3.out k e.symm; omega)).trans (HB3.out.block k hk)⟩); have HR4 := Aside0.mk hr_; have k4 := (blk_cell (blk_below HC1.out HB4.out) 0).trans (show _ = some (Value.slice (some ⟨g, 0, none⟩) (vl K).length _) from rfl); have f4 := blk_frozen (blk_below HC1.out HB4.out) 0; clear hr_ hb_ hg_))
      go_ret
      have hz := rk_end HK.out (step HB1.out HB4.out) (by rw [HV.out]; exact HR4.out) (HK.out.st.del s.data.toList) (fun q hq => HK.out.nm q (FM.mem_del.1 hq).1) (Nat.le_trans (FM.len_del K _) HK.out.len) (fun q hq => HK.out.ck q (FM.mem_del.1 hq).1)
      exact ⟨rfl, hz⟩)
end Go.Proofs.Ytjehbnhjaogfkaa.Sc
end

section
namespace Go.Proofs.Ytjehbnhjaogfkaa.Sc
open Go.RowKit Go.Lib Go.Maps Go.WideAt Go.WideShapes Go.Proofs.YtjehbnhjaogfkaaW.PrintWords Go.Proofs.YtjehbnhjaogfkaaW.PrintLast Go.Proofs.YtjehbnhjaogfkaaW.PrintMore
open Go.Proofs.Ytjehbnhjaogfkaa
set_option linter.unusedVariables false
set_option linter.unusedSimpArgs false
def crK (K : FM.T Tb) (t : Tb) : Int := if chk t then (if (FM.get K t.nm.data.toList).isSome then 6 else if 4096 ≤ K.length then 2 else 0) else 140
def crN (K : FM.T Tb) (t : Tb) : FM.T Tb := if crK K t = 0 then FM.put K t.nm.data.toList t else K
theorem vl_put {K : FM.T Tb} (hs : FL.St K) {k : FM.Key} (t : Tb) (h : FM.get K k = none) : vl (FM.put K k t) = (vl K).take (FL.pl K k) ++ [t] ++ (vl K).drop (FL.pl K k) := by
  rw [FL.put_new hs k t h]
  simp [vl, List.map_append, List.map_take, List.map_drop]
theorem rows_cases {W : World} {base : Nat} {ok : Nat → Prop} {v : Value} {L : List Tb} (h : ktb.R 30 W base ok v L) : (v = .slice none 0 0 ∧ L = []) ∨ ∃ g c, v = .slice (some ⟨g, 0, none⟩) L.length c ∧ L.length ≤ c ∧ c ≤ 9223372036854775807 := by
  obtain ⟨h0, inner, ho, hr⟩ := h
  rcases ho.2 with ⟨rfl, hn⟩ | ⟨g, c, cur, rfl, hb, hh, h1, h2, h3, h4⟩
  · exact .inl ⟨rfl, List.eq_nil_of_length_eq_zero hn⟩
  · exact .inr ⟨g, c, rfl, h1, h2⟩
theorem reads_nil (P : Tb → List Value → Prop) (W : World) (A : Option Addr) : ReadsRow P ktb.sz W A 0 [] := ⟨rfl, by decide, fun h => absurd h (Nat.lt_irrefl 0)⟩
theorem own_fresh {w : World} {v v1 : Value} (hat : v1.ownBlock = v.ownBlock ∨ ∃ b, v1.ownBlock = some b ∧ w.heap.size ≤ b) {n : Nat} (hv : ∀ k, v.ownBlock = some k → n ≤ k) (hn : n ≤ w.heap.size) : ∀ k, v1.ownBlock = some k → n ≤ k := fun k hk => by
  rcases hat with e | ⟨b, e, hb⟩
  · exact hv k (e ▸ hk)
  · rw [e] at hk
    injection hk with hk
    omega
theorem below_own {w w1 : World} {v : Value} {n : Nat} (hg : w.grownBy w1 v.ownBlock) (hv : ∀ k, v.ownBlock = some k → n ≤ k) {w0 : World} (hb : Below w0.heap.size w0 w) (hn : w0.heap.size ≤ n) : Below w0.heap.size w0 w1 :=
  ⟨hg.os.trans hb.os, hg.tape.trans hb.tape, hg.output.trans hb.output, Nat.le_trans hb.size hg.size, fun k hk => (hg.block k (Nat.lt_of_lt_of_le hk hb.size) (fun e => by have := hv k e.symm; omega)).trans (hb.block k hk)⟩
set_option maxRecDepth 100000 in
set_option maxHeartbeats 16000000 in
theorem dcreate_walk (ok : Nat → Prop) (W : World) (h : Nat) (K : FM.T Tb) (hk : RK ok W h K) (t : Tb) (A : Option Addr) (ca : Nat) (B : Option Addr) (cb : Nat) (hA : kcol.C W A t.cols.length t.cols) (hca : t.cols.length ≤ ca) (hB : kix.C W B t.ixs.length t.ixs) (hcb : t.ixs.length ≤ cb) :
    Calls Try.prog 22 #[.pointer (some ⟨h, 0, none⟩), .agg #[.string t.nm, .slice A t.cols.length ca, .int .i64 t.key, .slice B t.ixs.length cb]] W fun e w' => e = .returned (.int .i64 (crK K t)) ∧ RK (fun x => ok x ∨ W.heap.size ≤ x) w' h (crN K t) ∧ Fr (Only h) W w' := by
  obtain ⟨z, hz⟩ : ∃ z, W.heap.size = z := ⟨_, rfl⟩
  have hal := below_alloc (Below.refl W.heap.size W) (.cells #[.string t.nm, .slice A t.cols.length ca, .int .i64 t.key, .slice B t.ixs.length cb] 30)
  have HX := Aside0.mk (show TbBox (W.alloc (.cells #[.string t.nm, .slice A t.cols.length ca, .int .i64 t.key, .slice B t.ixs.length cb] 30)) z (.string t.nm) (.slice A t.cols.length ca) (.int .i64 t.key) (.slice B t.ixs.length cb) from hz ▸ tbBox_made W _ _ _ _ _)
  have HK := Aside0.mk hk
  have HB := Aside0.mk hal
  have HCa := Aside0.mk (Kd.C_below hA hal)
  have HCb := Aside0.mk (Kd.C_below hB hal)
  have HQ := Aside0.mk (show t.cols.length ≤ ca ∧ t.ixs.length ≤ cb from ⟨hca, hcb⟩)
  have HSame := Aside0.mk (fun w1 (hb1 : Below W.heap.size W w1) => (show RK (fun x => ok x ∨ W.heap.size ≤ x) w1 h K ∧ Fr (Only h) W w1 from ⟨(hk.below hb1).weak, Fr.of_below hb1⟩))
  obtain ⟨c, hc⟩ : ∃ c, crK K t = c := ⟨_, rfl⟩
  have HC := Aside0.mk hc
  obtain ⟨N, hN⟩ : ∃ N, crN K t = N := ⟨_, rfl⟩
  have HN := Aside0.mk hN
  rw [hc, hN]
  clear hk hal hA hB hca hcb hc hN
  go_enter Try.func22, Try.ntmps22
  go_upto_region 1 with fail
  clear hz
  generalize W.alloc (.cells #[.string t.nm, .slice A t.cols.length ca, .int .i64 t.key, .slice B t.ixs.length cb] 30) = w0 at *
  have p0 := HX.out.c0
  have p1 := HX.out.c1
  have p2 := HX.out.c2
  have p3 := HX.out.c3
  obtain ⟨ck, hck⟩ : ∃ ck, chk t = ck := ⟨_, rfl⟩
  have HCk := Aside0.mk hck
  clear hck
  cases ck with
  | false =>
    have hc0 : c = 140 := by rw [← HC.out]; unfold crK; rw [HCk.out]; rfl
    have hn : K = N := by rw [← HN.out]; unfold crN; rw [if_neg (by rw [HC.out, hc0]; decide)]
    subst hc0
    subst hn
    go_wp2_with (go_at_call 34; refine (may_walk w0 t A ca B cb HCa.out HQ.out.1 HCb.out HQ.out.2).mono ?_; rw [HCk.out]; rintro e w1 ⟨rfl, hb1⟩; have HB1 := Aside0.mk (step HB.out hb1); have HX1 := Aside0.mk (HX.out.keep hb1 HX.out.lt); have HCa1 := Aside0.mk (Kd.C_below HCa.out hb1); have HCb1 := Aside0.mk (Kd.C_below HCb.out hb1); clear hb1)
    go_ret
    exact ⟨rfl, HSame.out w1 HB1.out⟩
  | true =>
    go_upto_region 3 with (go_at_call 34; refine (may_walk w0 t A ca B cb HCa.out HQ.out.1 HCb.out HQ.out.2).mono ?_; rw [HCk.out]; rintro e w1 ⟨rfl, hb1⟩; have HB1 := Aside0.mk (step HB.out hb1); have HX1 := Aside0.mk (HX.out.keep hb1 HX.out.lt); have HCa1 := Aside0.mk (Kd.C_below HCa.out hb1); have HCb1 := Aside0.mk (Kd.C_below HCb.out hb1); clear hb1)
    clear p0 p1 p2 p3 HX HB HCa HCb
    have p0 := HX1.out.c0
    have HK1 := Aside0.mk (HK.out.below HB1.out)
    obtain ⟨r, hr⟩ : ∃ r, FM.get K t.nm.data.toList = r := ⟨_, rfl⟩
    have HR := Aside0.mk hr
    clear hr
    cases r with
    | some u =>
      have hc0 : c = 6 := by rw [← HC.out]; unfold crK; rw [HCk.out, HR.out]; rfl
      have hn : K = N := by rw [← HN.out]; unfold crN; rw [if_neg (by rw [HC.out, hc0]; decide)]
      subst hc0
      subst hn
      go_wp2_with (go_at_call 42; refine (dplace_walk ok w1 h K HK1.out t.nm).mono ?_; rw [HR.out]; rintro e w2 ⟨rfl, hb2⟩; have HB2 := Aside0.mk (step HB1.out hb2); have HX2 := Aside0.mk (HX1.out.keep hb2 HX1.out.lt); have HCa2 := Aside0.mk (Kd.C_below HCa1.out hb2); have HCb2 := Aside0.mk (Kd.C_below HCb1.out hb2); clear hb2)
      go_ret
      exact ⟨rfl, HSame.out w2 HB2.out⟩
    | none =>
      go_upto_region 6 with (go_at_call 42; refine (dplace_walk ok w1 h K HK1.out t.nm).mono ?_; rw [HR.out]; rintro e w2 ⟨rfl, hb2⟩; have HB2 := Aside0.mk (step HB1.out hb2); have HX2 := Aside0.mk (HX1.out.keep hb2 HX1.out.lt); have HCa2 := Aside0.mk (Kd.C_below HCa1.out hb2); have HCb2 := Aside0.mk (Kd.C_below HCb1.out hb2); clear hb2)
      clear p0 HX1 HCa1 HCb1 HB1 HK1
      have hml := HK.out.len
      have hll := vl_len K
      obtain ⟨v, hv, hrow⟩ := HK.out.row
      have hv2 := blk_below hv HB2.out
      have HRow := Aside0.mk hrow
      have HCv := Aside0.mk hv2
      have HH := Aside0.mk (show h + 1 ≤ W.heap.size from blk_lt hv)
      have hsh := rows_cases hrow
      rw [hll] at hsh
      clear hv hv2 hrow
      by_cases h4 : 4096 ≤ K.length
      · have hc0 : c = 2 := by rw [← HC.out]; unfold crK; rw [HCk.out, HR.out]; simp [h4]
        have hn : K = N := by rw [← HN.out]; unfold crN; rw [if_neg (by rw [HC.out, hc0]; decide)]
        subst hc0
        subst hn
        have h4i : (4096 : Int) ≤ (K.length : Int) := by omega
        obtain ⟨g, cv, rfl, hcv, hcm⟩ := hsh.resolve_left (fun e => by have h0 := vl_len K; rw [e.2] at h0; have h1 : K.length = 0 := h0.symm; omega)
        have c1 := (blk_cell HCv.out 0).trans (show _ = some (Value.slice (some ⟨g, 0, none⟩) K.length cv) from rfl)
        clear h4 hsh
        go_wp2_with fail
        go_ret
        exact ⟨rfl, HSame.out w2 HB2.out⟩
      · have hc0 : c = 0 := by rw [← HC.out]; unfold crK; rw [HCk.out, HR.out]; simp [h4]
        have hn : N = FM.put K t.nm.data.toList t := by rw [← HN.out]; unfold crN; rw [if_pos (by rw [HC.out, hc0])]
        subst hc0
        subst hn
        have h4i : ¬ (4096 : Int) ≤ (K.length : Int) := by omega
        obtain ⟨p, hp⟩ : ∃ p, FL.pl K t.nm.data.toList = p := ⟨_, rfl⟩
        have hpl : p ≤ K.length := hp ▸ FL.pl_le K _
        have hvp := vl_put HK.out.st t HR.out
        rw [hp] at hvp ⊢
        have HV := Aside0.mk hvp
        have HEnd := Aside0.mk (fun (w9 : World) (v9 : Value) (hb9 : Below W.heap.size W w9) (hr9 : ktb.R 30 w9 (h + 1) (fun x => ok x ∨ W.heap.size ≤ x) v9 (vl (FM.put K t.nm.data.toList t))) =>
          rk_end HK.out hb9 hr9 (HK.out.st.put _ _) (fun q hq => (FM.mem_put.1 hq).elim (fun e => by subst e; rfl) (fun e => HK.out.nm q e.1)) (Nat.le_trans (FM.len_put_new K _ t) (by omega)) (fun q hq => (FM.mem_put.1 hq).elim (fun e => by subst e; exact HCk.out) (fun e => HK.out.ck q e.1)))
        have HPl := Aside0.mk hpl
        have HW2 := Aside0.mk HB2.out.size
        clear hp hvp
        rcases hsh with ⟨rfl, hK0⟩ | ⟨g, cv, rfl, hcv, hcm⟩
        · have hK : K = [] := by cases K with | nil => rfl | cons a b => simp [vl] at hK0
          subst hK
          obtain rfl : p = 0 := Nat.le_zero.1 hpl
          have c1 := (blk_cell HCv.out 0).trans (show _ = some (Value.slice none 0 0) from rfl)
          clear hK0 h4 hpl h4i hll
          go_upto_region 9 with fail
          go_cut [7] (fun x wc => ∃ v3, v3 = x ∧ Aside0 (ktb.R 30 wc (h + 1) (fun x => ok x ∨ W.heap.size ≤ x) v3 []) ∧ Aside0 (Below w2.heap.size w2 wc) ∧ Aside0 (∀ k, v3.ownBlock = some k → w2.heap.size ≤ k))
          case first =>
            go_wp2_with fail
            go_meet
            exact ⟨.slice none 0 0, rfl, ⟨Kd.R_nil ktb 30 w2 (h + 1) _⟩, ⟨Below.refl _ _⟩, ⟨fun k hk => by simp [Value.ownBlock] at hk⟩⟩
          case rest =>
          obtain ⟨v3, hx3, HR3, HD3, HV3⟩ := hcut
          subst hx3
          have HX3 := Aside0.mk (HX2.out.keep HD3.out HX2.out.lt)
          have b0 := HX3.out.c0
          have b1 := HX3.out.c1
          have b2 := HX3.out.c2
          have b3 := HX3.out.c3
          clear c1
          go_wp2_with (first
            | (go_at_call 21; refine (copy_small _ t A ca B cb (Kd.C_below HCa2.out HD3.out) HQ.out.1 (Kd.C_below HCb2.out HD3.out) HQ.out.2 HCk.out).mono ?_; rintro e w5 ⟨v5, rfl, ⟨u1, u3, rfl, hR1, hR3⟩, hb5⟩; obtain ⟨U1, k1, rfl⟩ := Kd.R_slice hR1; obtain ⟨U3, k3, rfl⟩ := Kd.R_slice hR3; have HM5 := Aside0.mk (ktb_M (t := t) (Kd.R_mono (Kd.R_lower (Kd.R_bound hR1) (show h + 1 ≤ wc.heap.size from Nat.le_trans HH.out (Nat.le_trans HW2.out HD3.out.size))) fun k hk => hk.2.1) (Kd.R_mono (Kd.R_lower (Kd.R_bound hR3) (show h + 1 ≤ wc.heap.size from Nat.le_trans HH.out (Nat.le_trans HW2.out HD3.out.size))) fun k hk => hk.2.1)); have HD5 := Aside0.mk (step HD3.out hb5); have HL5 := Aside0.mk hb5.size; have HR5 := Aside0.mk (Kd.R_below HR3.out hb5); obtain ⟨l1, hl1⟩ : ∃ l, t.cols.length = l := ⟨_, rfl⟩; obtain ⟨l3, hl3⟩ : ∃ l, t.ixs.length = l := ⟨_, rfl⟩; rw [hl1, hl3] at HM5 ⊢; clear hR1 hR3 hb5 hl1 hl3)
            | ((with_reducible refine gate_builtin (b := .append) (xs := #[.tmp 33, .tmp 36]) rfl ?_); at_builtin; refine Kd.R_append ktb (w0 := w5) (h + 1) rfl (.tmp 33) (.tmp 36) 22 30 zt 72 rfl Try.underlying22 info30 rfl (show 0 < 4 from by decide) (by decide) (v3) ([] ++ []) t _ (fun x => ok x ∨ W.heap.size ≤ x) (fun k => wc.heap.size ≤ k) rfl rfl HM5.out (fun k hk => ⟨.inr (Nat.le_trans HW2.out (Nat.le_trans HD3.out.size hk)), fun e => by have := Kd.R_lt HR3.out k e.symm; omega⟩) (fun _ hk => .inr (Nat.le_trans HW2.out (Nat.le_trans HD5.out.size hk))) HR5.out (Below.refl _ _) (Nat.le_trans HH.out (Nat.le_trans HW2.out HD5.out.size)) (by first | decide | (simp only [List.nil_append, List.length_take]; omega)) ?_; intro v6 w6 hr_ hb_ hg_ hat_; have HV6 := Aside0.mk (own_fresh hat_ (n := w2.heap.size) HV3.out HD5.out.size); have HD6 := Aside0.mk (below_own hg_ HV3.out HD5.out (Nat.le_refl _)); have HR6 := Aside0.mk hr_; have c6 := (blk_cell (blk_below HCv.out HD6.out) 0).trans (show _ = some (Value.slice none 0 0) from rfl); clear hr_ hb_ hg_ hat_ b0 b1 b2 b3)
            | ((with_reducible refine gate_builtin (b := .append) (xs := #[.tmp 39, .tmp 45]) rfl ?_); at_builtin; refine Kd.R_append_rows ktb (Rr := ktb.M w6 (h + 1) (fun k => ok k ∧ k < W.heap.size)) (w0 := w6) (h + 1) rfl (.tmp 39) (.tmp 45) 22 30 zt 72 rfl Try.underlying22 info30 rfl (show 0 < 4 from by decide) (by decide) _ _ [] _ _ _ (fun x => ok x ∨ W.heap.size ≤ x) (fun k => ok k ∧ k < W.heap.size) rfl rfl HR6.out (reads_nil _ _ _) (fun _ _ hh => hh) (fun k hk => ⟨.inl hk.1, fun e => by have := HV6.out k e.symm; have := HW2.out; have := hk.2; omega⟩) (fun _ hk => .inr (Nat.le_trans (Nat.le_trans HW2.out HD6.out.size) hk)) (Below.refl _ _) (Nat.le_trans HH.out (Nat.le_trans HW2.out HD6.out.size)) (by first | decide | (simp only [List.nil_append, List.length_take, List.length_append, List.length_cons, List.length_nil]; omega)) ?_; intro v9 w9 hr_ hb_ hg_ _; obtain ⟨A9, c9, rfl⟩ := Kd.R_slice hr_; obtain ⟨n9, hn9⟩ : ∃ n9, ([] ++ [] ++ [t] ++ []).length = n9 := ⟨_, rfl⟩; rw [hn9] at hr_ ⊢; clear hn9; have HD9 := Aside0.mk (below_own hg_ HV6.out HD6.out (Nat.le_refl _)); have HR9 := Aside0.mk hr_; have k9 := (blk_cell (blk_below HCv.out HD9.out) 0).trans (show _ = some (Value.slice none 0 0) from rfl); have f9 := blk_frozen (blk_below HCv.out HD9.out) 0; clear hr_ hb_ hg_))
          go_ret
          exact ⟨rfl, HEnd.out w9 _ (step HB2.out HD9.out) (by rw [HV.out]; exact HR9.out)⟩
        · by_cases hcv0 : cv = 0
          · subst hcv0
            have hK : K = [] := List.eq_nil_of_length_eq_zero (Nat.le_zero.1 hcv)
            subst hK
            obtain rfl : p = 0 := Nat.le_zero.1 hpl
            have c1 := (blk_cell HCv.out 0).trans (show _ = some (Value.slice (some ⟨g, 0, none⟩) 0 0) from rfl)
            clear h4 hpl h4i hll hcv hcm
            go_upto_region 9 with fail
            go_cut [7] (fun x wc => ∃ v3, v3 = x ∧ Aside0 (ktb.R 30 wc (h + 1) (fun x => ok x ∨ W.heap.size ≤ x) v3 []) ∧ Aside0 (Below w2.heap.size w2 wc) ∧ Aside0 (∀ k, v3.ownBlock = some k → w2.heap.size ≤ k))
            case first =>
              go_wp2_with fail
              go_meet
              exact ⟨.slice none 0 0, rfl, ⟨Kd.R_nil ktb 30 w2 (h + 1) _⟩, ⟨Below.refl _ _⟩, ⟨fun k hk => by simp [Value.ownBlock] at hk⟩⟩
            case rest =>
            obtain ⟨v3, hx3, HR3, HD3, HV3⟩ := hcut
            subst hx3
            have HX3 := Aside0.mk (HX2.out.keep HD3.out HX2.out.lt)
            have b0 := HX3.out.c0
            have b1 := HX3.out.c1
            have b2 := HX3.out.c2
            have b3 := HX3.out.c3
            clear c1
            go_wp2_with (first
              | (go_at_call 21; refine (copy_small _ t A ca B cb (Kd.C_below HCa2.out HD3.out) HQ.out.1 (Kd.C_below HCb2.out HD3.out) HQ.out.2 HCk.out).mono ?_; rintro e w5 ⟨v5, rfl, ⟨u1, u3, rfl, hR1, hR3⟩, hb5⟩; obtain ⟨U1, k1, rfl⟩ := Kd.R_slice hR1; obtain ⟨U3, k3, rfl⟩ := Kd.R_slice hR3; have HM5 := Aside0.mk (ktb_M (t := t) (Kd.R_mono (Kd.R_lower (Kd.R_bound hR1) (show h + 1 ≤ wc.heap.size from Nat.le_trans HH.out (Nat.le_trans HW2.out HD3.out.size))) fun k hk => hk.2.1) (Kd.R_mono (Kd.R_lower (Kd.R_bound hR3) (show h + 1 ≤ wc.heap.size from Nat.le_trans HH.out (Nat.le_trans HW2.out HD3.out.size))) fun k hk => hk.2.1)); have HD5 := Aside0.mk (step HD3.out hb5); have HL5 := Aside0.mk hb5.size; have HR5 := Aside0.mk (Kd.R_below HR3.out hb5); obtain ⟨l1, hl1⟩ : ∃ l, t.cols.length = l := ⟨_, rfl⟩; obtain ⟨l3, hl3⟩ : ∃ l, t.ixs.length = l := ⟨_, rfl⟩; rw [hl1, hl3] at HM5 ⊢; clear hR1 hR3 hb5 hl1 hl3)
              | ((with_reducible refine gate_builtin (b := .append) (xs := #[.tmp 33, .tmp 36]) rfl ?_); at_builtin; refine Kd.R_append ktb (w0 := w5) (h + 1) rfl (.tmp 33) (.tmp 36) 22 30 zt 72 rfl Try.underlying22 info30 rfl (show 0 < 4 from by decide) (by decide) (v3) ([] ++ []) t _ (fun x => ok x ∨ W.heap.size ≤ x) (fun k => wc.heap.size ≤ k) rfl rfl HM5.out (fun k hk => ⟨.inr (Nat.le_trans HW2.out (Nat.le_trans HD3.out.size hk)), fun e => by have := Kd.R_lt HR3.out k e.symm; omega⟩) (fun _ hk => .inr (Nat.le_trans HW2.out (Nat.le_trans HD5.out.size hk))) HR5.out (Below.refl _ _) (Nat.le_trans HH.out (Nat.le_trans HW2.out HD5.out.size)) (by first | decide | (simp only [List.nil_append, List.length_take]; omega)) ?_; intro v6 w6 hr_ hb_ hg_ hat_; have HV6 := Aside0.mk (own_fresh hat_ (n := w2.heap.size) HV3.out HD5.out.size); have HD6 := Aside0.mk (below_own hg_ HV3.out HD5.out (Nat.le_refl _)); have HR6 := Aside0.mk hr_; have c6 := (blk_cell (blk_below HCv.out HD6.out) 0).trans (show _ = some (Value.slice (some ⟨g, 0, none⟩) 0 0) from rfl); clear hr_ hb_ hg_ hat_ b0 b1 b2 b3)
              | ((with_reducible refine gate_builtin (b := .append) (xs := #[.tmp 39, .tmp 45]) rfl ?_); at_builtin; refine Kd.R_append_rows ktb (Rr := ktb.M w6 (h + 1) (fun k => ok k ∧ k < W.heap.size)) (w0 := w6) (h + 1) rfl (.tmp 39) (.tmp 45) 22 30 zt 72 rfl Try.underlying22 info30 rfl (show 0 < 4 from by decide) (by decide) _ _ [] _ _ _ (fun x => ok x ∨ W.heap.size ≤ x) (fun k => ok k ∧ k < W.heap.size) rfl rfl HR6.out (reads_nil _ _ _) (fun _ _ hh => hh) (fun k hk => ⟨.inl hk.1, fun e => by have := HV6.out k e.symm; have := HW2.out; have := hk.2; omega⟩) (fun _ hk => .inr (Nat.le_trans (Nat.le_trans HW2.out HD6.out.size) hk)) (Below.refl _ _) (Nat.le_trans HH.out (Nat.le_trans HW2.out HD6.out.size)) (by first | decide | (simp only [List.nil_append, List.length_take, List.length_append, List.length_cons, List.length_nil]; omega)) ?_; intro v9 w9 hr_ hb_ hg_ _; obtain ⟨A9, c9, rfl⟩ := Kd.R_slice hr_; obtain ⟨n9, hn9⟩ : ∃ n9, ([] ++ [] ++ [t] ++ []).length = n9 := ⟨_, rfl⟩; rw [hn9] at hr_ ⊢; clear hn9; have HD9 := Aside0.mk (below_own hg_ HV6.out HD6.out (Nat.le_refl _)); have HR9 := Aside0.mk hr_; have k9 := (blk_cell (blk_below HCv.out HD9.out) 0).trans (show _ = some (Value.slice (some ⟨g, 0, none⟩) 0 0) from rfl); have f9 := blk_frozen (blk_below HCv.out HD9.out) 0; clear hr_ hb_ hg_))
            go_ret
            exact ⟨rfl, HEnd.out w9 _ (step HB2.out HD9.out) (by rw [HV.out]; exact HR9.out)⟩
          have q1 : (p : Int) ≤ (cv : Int) := by omega
          have q3 : (p : Int) ≤ (K.length : Int) := by omega
          have c1 := (blk_cell HCv.out 0).trans (show _ = some (Value.slice (some ⟨g, 0, none⟩) K.length cv) from rfl)
          rw [show K.length = (vl K).length from hll.symm] at HRow
          clear h4
          by_cases hca : p = cv
          all_goals (try subst hca)
          all_goals (
            go_wp2_with (first
              | (go_at_call 21; refine (copy_small _ t A ca B cb (Kd.C_below HCa2.out HD3.out) HQ.out.1 (Kd.C_below HCb2.out HD3.out) HQ.out.2 HCk.out).mono ?_; rintro e w5 ⟨v5, rfl, ⟨u1, u3, rfl, hR1, hR3⟩, hb5⟩; obtain ⟨U1, k1, rfl⟩ := Kd.R_slice hR1; obtain ⟨U3, k3, rfl⟩ := Kd.R_slice hR3; have HM5 := Aside0.mk (ktb_M (t := t) (Kd.R_mono (Kd.R_lower (Kd.R_bound hR1) (show h + 1 ≤ w3.heap.size from Nat.le_trans HH.out (Nat.le_trans HW2.out HD3.out.size))) fun k hk => hk.2.1) (Kd.R_mono (Kd.R_lower (Kd.R_bound hR3) (show h + 1 ≤ w3.heap.size from Nat.le_trans HH.out (Nat.le_trans HW2.out HD3.out.size))) fun k hk => hk.2.1)); have HD5 := Aside0.mk (step HD3.out hb5); have HL5 := Aside0.mk hb5.size; have HR5 := Aside0.mk (Kd.R_below HR3.out hb5); obtain ⟨l1, hl1⟩ : ∃ l, t.cols.length = l := ⟨_, rfl⟩; obtain ⟨l3, hl3⟩ : ∃ l, t.ixs.length = l := ⟨_, rfl⟩; rw [hl1, hl3] at HM5 ⊢; clear hR1 hR3 hb5 hl1 hl3)
              | ((with_reducible refine gate_builtin (b := .append) (xs := #[.tmp 25, .tmp 31]) rfl ?_); at_builtin; refine Kd.R_append_rows ktb (Rr := ktb.M w2 (h + 1) (fun k => ok k ∧ k < W.heap.size)) (w0 := w2) (h + 1) rfl (.tmp 25) (.tmp 31) 22 30 zt 72 rfl Try.underlying22 info30 rfl (show 0 < 4 from by decide) (by decide) (.slice none 0 0) [] ((vl K).take p) _ p _ (fun x => ok x ∨ W.heap.size ≤ x) (fun k => ok k ∧ k < W.heap.size) rfl rfl (Kd.R_nil _ _ _ _ _) (reads_take ((tb_reads HRow.out).imp_ HB2.out fun _ _ hp => Kd.M_below hp HB2.out) (by rw [hll]; omega)) (fun _ _ hh => hh) (fun _ hk => ⟨.inl hk.1, by simp [Value.ownBlock]⟩) (fun _ hk => .inr (Nat.le_trans HW2.out hk)) (Below.refl _ _) (Nat.le_trans HH.out HW2.out) (by simp only [List.length_nil]; omega) ?_; intro v3 w3 hr_ hb_ hg_ hat_; have HV3 := Aside0.mk (own_fresh hat_ (n := w2.heap.size) (fun k hk => by simp [Value.ownBlock] at hk) (Nat.le_refl _)); have HD3 := Aside0.mk (below_own hg_ (n := w2.heap.size) (fun k hk => by simp [Value.ownBlock] at hk) (Below.refl _ w2) (Nat.le_refl _)); have HR3 := Aside0.mk hr_; have HX3 := Aside0.mk (HX2.out.keep HD3.out HX2.out.lt); have b0 := HX3.out.c0; have b1 := HX3.out.c1; have b2 := HX3.out.c2; have b3 := HX3.out.c3; clear hr_ hb_ hg_ hat_)
              | ((with_reducible refine gate_builtin (b := .append) (xs := #[.tmp 33, .tmp 36]) rfl ?_); at_builtin; refine Kd.R_append ktb (w0 := w5) (h + 1) rfl (.tmp 33) (.tmp 36) 22 30 zt 72 rfl Try.underlying22 info30 rfl (show 0 < 4 from by decide) (by decide) (v3) ([] ++ ((vl K).take p)) t _ (fun x => ok x ∨ W.heap.size ≤ x) (fun k => w3.heap.size ≤ k) rfl rfl HM5.out (fun k hk => ⟨.inr (Nat.le_trans HW2.out (Nat.le_trans HD3.out.size hk)), fun e => by have := Kd.R_lt HR3.out k e.symm; omega⟩) (fun _ hk => .inr (Nat.le_trans HW2.out (Nat.le_trans HD5.out.size hk))) HR5.out (Below.refl _ _) (Nat.le_trans HH.out (Nat.le_trans HW2.out HD5.out.size)) (by first | decide | (simp only [List.nil_append, List.length_take]; omega)) ?_; intro v6 w6 hr_ hb_ hg_ hat_; have HV6 := Aside0.mk (own_fresh hat_ (n := w2.heap.size) HV3.out HD5.out.size); have HD6 := Aside0.mk (below_own hg_ HV3.out HD5.out (Nat.le_refl _)); have HR6 := Aside0.mk hr_; have c6 := (blk_cell (blk_below HCv.out HD6.out) 0).trans (show _ = some (Value.slice (some ⟨g, 0, none⟩) K.length _) from rfl); clear hr_ hb_ hg_ hat_ b0 b1 b2 b3)
              | ((with_reducible refine gate_builtin (b := .append) (xs := #[.tmp 39, .tmp 45]) rfl ?_); at_builtin; refine Kd.R_append_rows ktb (Rr := ktb.M w6 (h + 1) (fun k => ok k ∧ k < W.heap.size)) (w0 := w6) (h + 1) rfl (.tmp 39) (.tmp 45) 22 30 zt 72 rfl Try.underlying22 info30 rfl (show 0 < 4 from by decide) (by decide) _ _ ((vl K).drop p) _ _ _ (fun x => ok x ∨ W.heap.size ≤ x) (fun k => ok k ∧ k < W.heap.size) rfl rfl HR6.out (reads_drop ((tb_reads HRow.out).imp_ (step HB2.out HD6.out) fun _ _ hp => Kd.M_below hp (step HB2.out HD6.out)) (by rw [hll]; omega) (by omega) (by omega)) (fun _ _ hh => hh) (fun k hk => ⟨.inl hk.1, fun e => by have := HV6.out k e.symm; have := HW2.out; have := hk.2; omega⟩) (fun _ hk => .inr (Nat.le_trans (Nat.le_trans HW2.out HD6.out.size) hk)) (Below.refl _ _) (Nat.le_trans HH.out (Nat.le_trans HW2.out HD6.out.size)) (by first | decide | (simp only [List.nil_append, List.length_take, List.length_append, List.length_cons, List.length_nil]; omega)) ?_; intro v9 w9 hr_ hb_ hg_ _; obtain ⟨A9, c9, rfl⟩ := Kd.R_slice hr_; obtain ⟨n9, hn9⟩ : ∃ n9, ([] ++ ((vl K).take p) ++ [t] ++ ((vl K).drop p)).length = n9 := ⟨_, rfl⟩; rw [hn9] at hr_ ⊢; clear hn9; have HD9 := Aside0.mk (below_own hg_ HV6.out HD6.out (Nat.le_refl _)); have HR9 := Aside0.mk hr_; have k9 := (blk_cell (blk_below HCv.out HD9.out) 0).trans (show _ = some (Value.slice (some ⟨g, 0, none⟩) K.length _) from rfl); have f9 := blk_frozen (blk_below HCv.out HD9.out) 0; clear hr_ hb_ hg_))
            go_ret
            exact ⟨rfl, HEnd.out w9 _ (step HB2.out HD9.out) (by rw [HV.out]; exact HR9.out)⟩)
end Go.Proofs.Ytjehbnhjaogfkaa.Sc
end
