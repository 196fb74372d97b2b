import Derived.Test.YtjehbnhjaogfkaaSc1
namespace Go.Proofs.Ytjehbnhjaogfkaa.Sc
open Go.RowKit Go.Proofs.YtjehbnhjaogfkaaW.PrintWords Go.Proofs.YtjehbnhjaogfkaaW.PrintLast Go.Proofs.YtjehbnhjaogfkaaW.PrintMore
open Go.Proofs.Ytjehbnhjaogfkaa
set_option linter.unusedVariables false
set_option linter.unusedSimpArgs false
/-! A map of texts to whole numbers. -/
def intD {H : Type} (n : Int) : DataW H := .lit (.int .i64 n)
def intR {H : Type} : Value → Option (DataW H × List MemPlace)
  | .int .i64 n => some (intD n, [])
  | _ => none
theorem intR_mk {H : Type} (n : Int) : intR (H := H) (.int .i64 n) = some (intD n, []) := rfl
theorem intR_inv {H : Type} {v : Value} {n : Int} {ps : List MemPlace} (h : intR (H := H) v = some (intD n, ps)) : v = .int .i64 n := by
  unfold intR at h
  split at h
  · have := (Prod.mk.inj (Option.some.inj h)).1
    unfold intD at this
    simp only [DataW.lit.injEq, Lit.int.injEq, true_and] at this
    rw [this]
  · cases h
abbrev OwnI (W : World) (b : Nat) (m : FM.T Int) : Prop := W.ownsMap (H := Unit) Try.prog 9 intR b m.length (FM.toD intD m)
theorem ownI_tight {W : World} {b n : Nat} {m : FM.T Int} (h : W.ownsMap (H := Unit) Try.prog 9 intR b n (FM.toD intD m)) : OwnI W b m := by
  obtain ⟨es, cl, h1, h2, h3, h4⟩ := h
  refine ⟨es, cl, h1, h2, ?_, h4⟩
  have := congrArg Maps.size h4
  rw [FM.toD_size, Maps.size_eq, length_sorted] at this
  rw [this]
  simp
theorem ownI_move {W W1 : World} {b : Nat} {m : FM.T Int} (h : OwnI W b m) (hb : W1.heap[b]? = W.heap[b]?) : OwnI W1 b m := by
  obtain ⟨es, cl, h1, h2⟩ := h
  exact ⟨es, cl, hb.trans h1, h2⟩
theorem ownI_below {W W1 : World} {b : Nat} {m : FM.T Int} (h : OwnI W b m) (hb : Below W.heap.size W W1) : OwnI W1 b m := ownI_move h (hb.block b h.lt)
theorem zero3 (w : World) : (zeroValue 3).run Try.prog w = .ok (.int .i64 0) w := by kernel_rfl
theorem key9 (s : ByteArray) (hs : s.size ≤ maxLen) : keyOf Try.prog 9 (.string s) = some (.string s.data.toList) := by
  simp [keyOf, mapKey, Try.underlying9, hs]
theorem lookI_run {W : World} {b : Nat} {fs : FM.T Int} (hown : OwnI W b fs) (s : ByteArray) (hs : s.size ≤ maxLen) : (Instr.lookup 115 (.map (some b)) (.string s) false).run Try.prog W = .ok (.int .i64 ((FM.get fs s.data.toList).getD 0)) W := by
  obtain ⟨v, ps, hr, hv⟩ := hown.lookup (Go.Maps.string_keyed Try.underlying9) Try.underlying115 (zero3 W) (intR_mk 0) (key9 s hs)
  rw [FM.toD_at] at hv
  rw [hr, intR_inv hv]
section
variable {ops : Array Oper} {rest : List Oper} {o : Oper} {a : Act} {Q : Exit → Act → World → Prop} {W : World}
theorem step_lookI (hg : o.guard = none) (m x : Operand) (hop : o.op = Op.lookup 115 m x false) (b : Nat) (fs : FM.T Int) (hm : a.eval m = .map (some b)) (hown : OwnI W b fs) (s : ByteArray) (hx : a.eval x = .string s) (hs : s.size ≤ maxLen)
    (hK : wpList Try.prog ops Q rest (a.put o.dst (.int .i64 ((FM.get fs s.data.toList).getD 0))) W) : wpList Try.prog ops Q (o :: rest) a W := by
  refine wpList_plain hg fun K' hK' => ?_
  have hrun : (Instr.lookup 115 (.map (some b)) (.string s) false).run Try.prog W = .ok (.int .i64 ((FM.get fs s.data.toList).getD 0)) W := by
    obtain ⟨v, ps, hr, hv⟩ := hown.lookup (Go.Maps.string_keyed Try.underlying9) Try.underlying115 (zero3 W) (intR_mk 0) (key9 s hs)
    rw [FM.toD_at] at hv
    rw [hr, intR_inv hv]
  unfold Oper.wp
  simp [execOp, hop, hm, hx, hrun, Result.andThen]
  exact hK' _ _ hK
theorem step_putI (hg : o.guard = none) (m x v : Operand) (hop : o.op = Op.mapUpdate 115 m x v) (b : Nat) (fs : FM.T Int) (hm : a.eval m = .map (some b)) (hown : OwnI W b fs) (hn : fs.length ≤ 1000000) (s : ByteArray) (f : Int) (hx : a.eval x = .string s) (hv : a.eval v = .int .i64 f) (hs : s.size ≤ maxLen)
    (hK : ∀ W1, OwnI W1 b (FM.put fs s.data.toList f) → W.grownBy W1 (some b) → wpList Try.prog ops Q rest (a.put o.dst undef) W1) : wpList Try.prog ops Q (o :: rest) a W := by
  refine wpList_mapUpdate_own W hg m x v 115 hop 9 3 (Go.Maps.string_keyed Try.underlying9) Try.underlying115 intR b fs.length _ hm hown (by unfold maxLen; omega) (.string s) (.int .i64 f) (.string s.data.toList) hx hv (key9 s hs) (intD f) [] (intR_mk f) ?_
  intro W1 h1 h2
  rw [FM.toD_put] at h1
  exact hK W1 (ownI_tight h1) h2
end
/-- What the map of what was seen says. -/
def SeenAt (m : FM.T Int) (seen : List (List UInt8)) : Prop := m.length ≤ seen.length ∧ ∀ k : FM.Key, FM.get m k = if k ∈ seen then some 1 else none
theorem seen_nil : SeenAt [] [] := ⟨Nat.le_refl _, fun s => by simp; rfl⟩
theorem seen_cons {m : FM.T Int} {seen : List (List UInt8)} (h : SeenAt m seen) {s : FM.Key} (hs : s ∉ seen) : SeenAt (FM.put m s 1) (s :: seen) := by
  refine ⟨?_, fun k => ?_⟩
  · have := FM.len_put_new m s 1
    have := h.1
    simp only [List.length_cons]
    omega
  · by_cases e : s = k
    · subst e
      rw [FM.get_put_same]
      simp
    · rw [FM.get_put_other _ _ e, h.2 k]
      have : ¬ k = s := fun e2 => e e2.symm
      simp [this]
theorem dist_cons (seen : List (List UInt8)) (s : ByteArray) (r : List ByteArray) : dist seen (s :: r) = if nmOk s && !decide (s.data.toList ∈ seen) then dist (s.data.toList :: seen) r else false := rfl
theorem far_cell {W : World} {ad : Addr} {i k : Nat} {v : Value} (h : W.cell? (ad.add (i + (k + 1))) = some v) : W.cell? ⟨(ad.add i).block, (ad.add i).off + (k + 1), none⟩ = some v := by
  have e : (⟨(ad.add i).block, (ad.add i).off + (k + 1), none⟩ : Addr) = ad.add (i + (k + 1)) := by
    obtain ⟨a, b, c⟩ := ad
    by_cases hi : i = 0
    · subst hi; simp [Addr.add]
    · simp [Addr.add, hi, Nat.add_assoc]
  rw [e]
  exact h
theorem col_at {W : World} {A : Option Addr} {n : Nat} {l : List Col} (h : kcol.C W A n l) (i : Nat) (hi : i < l.length) : ∃ ad, A = some ad ∧ W.cell? (ad.add (i * 2)) = some (.string (l[i]).nm) ∧ W.cell? (ad.add (i * 2 + 1)) = some (.int .i64 (l[i]).kd) := by
  obtain ⟨ad, e, hc⟩ := h.2.2 (by have := h.1; omega)
  obtain ⟨c, hl, hK, hcell⟩ := hc i _ (List.getElem?_eq_getElem hi)
  obtain rfl := kcol_K.1 hK
  exact ⟨ad, e, hcell 0 _ rfl, hcell 1 _ rfl⟩
theorem ix_at {W : World} {A : Option Addr} {n : Nat} {l : List Ix} (h : kix.C W A n l) (i : Nat) (hi : i < l.length) : ∃ ad B e, A = some ad ∧ W.cell? (ad.add (i * 3)) = some (.string (l[i]).nm) ∧ W.cell? (ad.add (i * 3 + 1)) = some (.slice B (l[i]).cols.length e) ∧ W.cell? (ad.add (i * 3 + 2)) = some (.bool (l[i]).uq) ∧ (l[i]).cols.length ≤ e ∧ (Kd.int .i64).C W B (l[i]).cols.length (l[i]).cols := by
  obtain ⟨ad, e, hc⟩ := h.2.2 (by have := h.1; omega)
  obtain ⟨c, hl, hK, hcell⟩ := hc i _ (List.getElem?_eq_getElem hi)
  obtain ⟨B, e2, rfl, hle, hC⟩ := kix_K.1 hK
  exact ⟨ad, B, e2, e, hcell 0 _ rfl, hcell 1 _ rfl, hcell 2 _ rfl, hle, hC⟩
theorem colnm_walk (nm : ByteArray) (kd : Int) (W : World) : Calls Try.prog 39 #[.agg #[.string nm, .int .i64 kd]] W fun e w' => e = .returned (.string nm) ∧ Below W.heap.size W w' := by
  go_enter Try.func39, Try.ntmps39
  go_wp2
  go_ret
  exact ⟨rfl, below_alloc (Below.refl _ _) _⟩
theorem ixnm_walk (nm : ByteArray) (B : Option Addr) (n c : Nat) (u : Bool) (W : World) : Calls Try.prog 41 #[.agg #[.string nm, .slice B n c, .bool u]] W fun e w' => e = .returned (.string nm) ∧ Below W.heap.size W w' := by
  go_enter Try.func41, Try.ntmps41
  go_wp2
  go_ret
  exact ⟨rfl, below_alloc (Below.refl _ _) _⟩
set_option maxRecDepth 100000 in
set_option maxHeartbeats 4000000 in
theorem distC_walk (W : World) (A : Option Addr) (l : List Col) (cap : Nat) (hC : kcol.C W A l.length l) (hcap : l.length ≤ cap) (hs : ∀ x ∈ l, x.nm.size ≤ maxLen) (hl : l.length ≤ 1000000) :
    Calls Try.prog 38 #[.slice A l.length cap, .func (.func 39) #[] #[]] W fun e w' => e = .returned (.bool (dist [] (l.map (·.nm)))) ∧ Below W.heap.size W w' := by
  have HC := Aside0.mk hC
  have HS := Aside0.mk hs
  have hmm := @run_makeMap Try.prog
  obtain ⟨D, hD⟩ : ∃ D, dist [] (l.map (·.nm)) = D := ⟨_, rfl⟩
  have HD := Aside0.mk (show dist [] ((l.drop 0).map (·.nm)) = D from hD)
  rw [hD]
  obtain ⟨b, hb⟩ : ∃ b, W.heap.size = b := ⟨_, rfl⟩
  have HO0 := Aside0.mk (show OwnI (W.alloc (.map #[] 0)) b [] from hb ▸ World.ownsMap_made W Try.prog 9 intR)
  have HB0 := Aside0.mk (below_alloc (Below.refl W.heap.size W) (.map #[] 0))
  have HBW := Aside0.mk (Nat.le_of_eq hb)
  clear hC hs hD
  go_enter Try.func38, Try.ntmps38
  go_wp2_with fail
  clear hb hmm
  generalize W.alloc (.map #[] 0) = w0 at *
  go_loopg [12] (l.length + 1) (fun kq v12 w' => ∃ (j : Nat) (m : FM.T Int) (seen : List (List UInt8)), v12 = .int .i64 (j : Int) ∧ Aside0 (j + kq = l.length + 1 ∧ j ≤ l.length ∧ seen.length = j) ∧ Aside0 (OwnI w' b m) ∧ Aside0 (SeenAt m seen) ∧ Aside0 (dist seen ((l.drop j).map (·.nm)) = D) ∧ Aside0 (Below W.heap.size W w'))
  case atStart => exact ⟨0, [], [], rfl, ⟨by omega, Nat.zero_le _, rfl⟩, HO0, ⟨seen_nil⟩, HD, HB0⟩
  case round =>
    clear HO0 HB0 HD
    obtain ⟨j, m, seen, rfl, HJ, HO, HM, HD, HB⟩ := hrel
    by_cases hj : j < l.length
    · obtain ⟨kq1, rfl⟩ : ∃ kq1, gk = kq1 + 1 := ⟨gk - 1, by have := HJ.out; omega⟩
      have hji : (j : Int) < (l.length : Int) := by omega
      obtain ⟨ad, rfl, x0, x1⟩ := col_at (Kd.C_below HC.out HB.out) j hj
      have hsz := HS.out _ (List.getElem_mem hj)
      have hd := HD.out
      rw [List.drop_eq_getElem_cons hj, List.map_cons, dist_cons] at hd
      obtain ⟨x, hx⟩ : ∃ x, l[j] = x := ⟨_, rfl⟩
      rw [hx] at hd hsz x0 x1
      obtain ⟨nm, kd⟩ := x
      simp only at hd hsz x0 x1
      have HDj := Aside0.mk hd
      have HSz := Aside0.mk hsz
      have HHj := Aside0.mk hj
      have hml : m.length ≤ 1000000 := by have := HM.out.1; have := HJ.out; omega
      have y1 := far_cell x1
      have HOa := Aside0.mk (ownI_below HO.out (below_alloc (Below.refl wr.heap.size wr) (.cells #[.string nm, .int .i64 kd] 32)))
      have HBa := Aside0.mk (step HB.out (below_alloc (Below.refl wr.heap.size wr) (.cells #[.string nm, .int .i64 kd] 32)))
      clear hd hx hsz hj
      go_wp2_with fail
      generalize (wr.alloc (.cells #[.string nm, .int .i64 kd] 32)) = w1 at *
      refine (colnm_walk nm kd w1).mono ?_
      rintro e w2 ⟨rfl, hB2⟩
      have HO2 := Aside0.mk (ownI_below HOa.out hB2)
      have HB2 := Aside0.mk (step HBa.out hB2)
      have hg := HM.out.2 nm.data.toList
      clear hB2 x0 x1 y1
      by_cases hc : nm.data.toList ∈ seen
      · rw [if_pos hc] at hg
        have hdf : false = D := by have h1 := HDj.out; rw [decide_eq_true hc] at h1; simpa using h1
        subst hdf
        have HG := Aside0.mk (show (FM.get m nm.data.toList).getD 0 = 1 from by rw [hg]; rfl)
        have HG2 := Aside0.mk (show (FM.get (FM.put m nm.data.toList 2) nm.data.toList).getD 0 = 2 from by rw [FM.get_put_same]; rfl)
        obtain ⟨ok, hok⟩ : ∃ ok, nmOk nm = ok := ⟨_, rfl⟩
        have HOk := Aside0.mk hok
        clear hg hc hok
        cases ok
        all_goals (
          go_wp2_with (first | (at_lookup; refine step_lookI rfl _ _ rfl b m rfl HO2.out nm rfl HSz.out ?_; rw [HG.out]) | (at_mapUpdate; refine step_putI rfl _ _ _ rfl b m rfl HO2.out hml nm 2 rfl rfl HSz.out ?_; intro w3 ho hg3; have HO3 := Aside0.mk ho; have HB3 := Aside0.mk (((Fr.of_below (S := fun k => k = b) HB2.out).grown hg3 (.inl rfl)).to_below fun k hk => by subst hk; exact HBW.out); clear ho hg3))
          refine (named_walk nm _ (by have := HSz.out; unfold maxLen at this; omega)).mono ?_
          rw [HOk.out]
          rintro e w4 ⟨rfl, hB4⟩
          have HO4 := Aside0.mk (ownI_below HO3.out hB4)
          have HB4 := Aside0.mk (step HB3.out hB4)
          clear hB4
          have hr := lookI_run HO4.out nm HSz.out
          rw [HG2.out] at hr
          go_wp2_with fail
          go_ret
          exact ⟨rfl, HB4.out⟩)
      · rw [if_neg hc] at hg
        have HG := Aside0.mk (show (FM.get m nm.data.toList).getD 0 = 0 from by rw [hg]; rfl)
        have HG2 := Aside0.mk (show (FM.get (FM.put m nm.data.toList 1) nm.data.toList).getD 0 = 1 from by rw [FM.get_put_same]; rfl)
        have HM1 := Aside0.mk (seen_cons HM.out hc)
        cases hok : nmOk nm with
        | false =>
          have hdf : false = D := by have h1 := HDj.out; rw [hok] at h1; simpa using h1
          subst hdf
          have HOk := Aside0.mk hok
          clear hg hc hok
          go_wp2_with (first | (at_lookup; refine step_lookI rfl _ _ rfl b m rfl HO2.out nm rfl HSz.out ?_; rw [HG.out]) | (at_mapUpdate; refine step_putI rfl _ _ _ rfl b m rfl HO2.out hml nm 1 rfl rfl HSz.out ?_; intro w3 ho hg3; have HO3 := Aside0.mk ho; have HB3 := Aside0.mk (((Fr.of_below (S := fun k => k = b) HB2.out).grown hg3 (.inl rfl)).to_below fun k hk => by subst hk; exact HBW.out); clear ho hg3))
          refine (named_walk nm _ (by have := HSz.out; unfold maxLen at this; omega)).mono ?_
          rw [HOk.out]
          rintro e w4 ⟨rfl, hB4⟩
          have HO4 := Aside0.mk (ownI_below HO3.out hB4)
          have HB4 := Aside0.mk (step HB3.out hB4)
          clear hB4
          have hr := lookI_run HO4.out nm HSz.out
          rw [HG2.out] at hr
          go_wp2_with fail
          go_ret
          exact ⟨rfl, HB4.out⟩
        | true =>
          have HD1 := Aside0.mk (show dist (nm.data.toList :: seen) ((l.drop (j + 1)).map (·.nm)) = D from by have h1 := HDj.out; rw [hok, decide_eq_false hc] at h1; simpa using h1)
          have HOk := Aside0.mk hok
          clear hg hc hok
          go_wp2_with (first | (at_lookup; refine step_lookI rfl _ _ rfl b m rfl HO2.out nm rfl HSz.out ?_; rw [HG.out]) | (at_mapUpdate; refine step_putI rfl _ _ _ rfl b m rfl HO2.out hml nm 1 rfl rfl HSz.out ?_; intro w3 ho hg3; have HO3 := Aside0.mk ho; have HB3 := Aside0.mk (((Fr.of_below (S := fun k => k = b) HB2.out).grown hg3 (.inl rfl)).to_below fun k hk => by subst hk; exact HBW.out); clear ho hg3))
          refine (named_walk nm _ (by have := HSz.out; unfold maxLen at this; omega)).mono ?_
          rw [HOk.out]
          rintro e w4 ⟨rfl, hB4⟩
          have HO4 := Aside0.mk (ownI_below HO3.out hB4)
          have HB4 := Aside0.mk (step HB3.out hB4)
          clear hB4
          have hr := lookI_run HO4.out nm HSz.out
          rw [HG2.out] at hr
          go_wp2_with fail
          go_roundg kq1
          case measure => have := HJ.out; omega
          case rel => exact ⟨j + 1, _, nm.data.toList :: seen, by go_num, ⟨by have := HJ.out; omega, by have := HHj.out; omega, by have := HJ.out; simp only [List.length_cons]; omega⟩, HO4, HM1, HD1, HB4⟩
    · have hji : ¬ (j : Int) < (l.length : Int) := by omega
      have hdt : true = D := by have h1 := HD.out; rw [List.drop_of_length_le (by omega)] at h1; exact h1
      subst hdt
      go_wp2
      go_ret
      exact ⟨rfl, HB.out⟩
set_option maxRecDepth 100000 in
set_option maxHeartbeats 4000000 in
theorem distI_walk (W : World) (A : Option Addr) (l : List Ix) (cap : Nat) (hC : kix.C W A l.length l) (hcap : l.length ≤ cap) (hs : ∀ x ∈ l, x.nm.size ≤ maxLen) (hl : l.length ≤ 1000000) :
    Calls Try.prog 40 #[.slice A l.length cap, .func (.func 41) #[] #[]] W fun e w' => e = .returned (.bool (dist [] (l.map (·.nm)))) ∧ Below W.heap.size W w' := by
  have HC := Aside0.mk hC
  have HS := Aside0.mk hs
  have hmm := @run_makeMap Try.prog
  obtain ⟨D, hD⟩ : ∃ D, dist [] (l.map (·.nm)) = D := ⟨_, rfl⟩
  have HD := Aside0.mk (show dist [] ((l.drop 0).map (·.nm)) = D from hD)
  rw [hD]
  obtain ⟨b, hb⟩ : ∃ b, W.heap.size = b := ⟨_, rfl⟩
  have HO0 := Aside0.mk (show OwnI (W.alloc (.map #[] 0)) b [] from hb ▸ World.ownsMap_made W Try.prog 9 intR)
  have HB0 := Aside0.mk (below_alloc (Below.refl W.heap.size W) (.map #[] 0))
  have HBW := Aside0.mk (Nat.le_of_eq hb)
  clear hC hs hD
  go_enter Try.func40, Try.ntmps40
  go_wp2_with fail
  clear hb hmm
  generalize W.alloc (.map #[] 0) = w0 at *
  go_loopg [12] (l.length + 1) (fun kq v12 w' => ∃ (j : Nat) (m : FM.T Int) (seen : List (List UInt8)), v12 = .int .i64 (j : Int) ∧ Aside0 (j + kq = l.length + 1 ∧ j ≤ l.length ∧ seen.length = j) ∧ Aside0 (OwnI w' b m) ∧ Aside0 (SeenAt m seen) ∧ Aside0 (dist seen ((l.drop j).map (·.nm)) = D) ∧ Aside0 (Below W.heap.size W w'))
  case atStart => exact ⟨0, [], [], rfl, ⟨by omega, Nat.zero_le _, rfl⟩, HO0, ⟨seen_nil⟩, HD, HB0⟩
  case round =>
    clear HO0 HB0 HD
    obtain ⟨j, m, seen, rfl, HJ, HO, HM, HD, HB⟩ := hrel
    by_cases hj : j < l.length
    · obtain ⟨kq1, rfl⟩ : ∃ kq1, gk = kq1 + 1 := ⟨gk - 1, by have := HJ.out; omega⟩
      have hji : (j : Int) < (l.length : Int) := by omega
      obtain ⟨ad, B, e9, rfl, x0, x1, x2, -, -⟩ := ix_at (Kd.C_below HC.out HB.out) j hj
      have hsz := HS.out _ (List.getElem_mem hj)
      have hd := HD.out
      rw [List.drop_eq_getElem_cons hj, List.map_cons, dist_cons] at hd
      obtain ⟨x, hx⟩ : ∃ x, l[j] = x := ⟨_, rfl⟩
      rw [hx] at hd hsz x0 x1 x2
      obtain ⟨nm, xs, uq⟩ := x
      simp only at hd hsz x0 x1 x2
      have HDj := Aside0.mk hd
      have HSz := Aside0.mk hsz
      have HHj := Aside0.mk hj
      have hml : m.length ≤ 1000000 := by have := HM.out.1; have := HJ.out; omega
      have y1 := far_cell x1
      have y2 := far_cell x2
      have HOa := Aside0.mk (ownI_below HO.out (below_alloc (Below.refl wr.heap.size wr) (.cells #[.string nm, .slice B xs.length e9, .bool uq] 67)))
      have HBa := Aside0.mk (step HB.out (below_alloc (Below.refl wr.heap.size wr) (.cells #[.string nm, .slice B xs.length e9, .bool uq] 67)))
      clear hd hx hsz hj
      go_wp2_with fail
      generalize (wr.alloc (.cells #[.string nm, .slice B xs.length e9, .bool uq] 67)) = w1 at *
      refine (ixnm_walk nm B xs.length e9 uq w1).mono ?_
      rintro e w2 ⟨rfl, hB2⟩
      have HO2 := Aside0.mk (ownI_below HOa.out hB2)
      have HB2 := Aside0.mk (step HBa.out hB2)
      have hg := HM.out.2 nm.data.toList
      clear hB2 x0 x1 x2 y1 y2
      by_cases hc : nm.data.toList ∈ seen
      · rw [if_pos hc] at hg
        have hdf : false = D := by have h1 := HDj.out; rw [decide_eq_true hc] at h1; simpa using h1
        subst hdf
        have HG := Aside0.mk (show (FM.get m nm.data.toList).getD 0 = 1 from by rw [hg]; rfl)
        have HG2 := Aside0.mk (show (FM.get (FM.put m nm.data.toList 2) nm.data.toList).getD 0 = 2 from by rw [FM.get_put_same]; rfl)
        obtain ⟨ok, hok⟩ : ∃ ok, nmOk nm = ok := ⟨_, rfl⟩
        have HOk := Aside0.mk hok
        clear hg hc hok
        cases ok
        all_goals (
          go_wp2_with (first | (at_lookup; refine step_lookI rfl _ _ rfl b m rfl HO2.out nm rfl HSz.out ?_; rw [HG.out]) | (at_mapUpdate; refine step_putI rfl _ _ _ rfl b m rfl HO2.out hml nm 2 rfl rfl HSz.out ?_; intro w3 ho hg3; have HO3 := Aside0.mk ho; have HB3 := Aside0.mk (((Fr.of_below (S := fun k => k = b) HB2.out).grown hg3 (.inl rfl)).to_below fun k hk => by subst hk; exact HBW.out); clear ho hg3))
          refine (named_walk nm _ (by have := HSz.out; unfold maxLen at this; omega)).mono ?_
          rw [HOk.out]
          rintro e w4 ⟨rfl, hB4⟩
          have HO4 := Aside0.mk (ownI_below HO3.out hB4)
          have HB4 := Aside0.mk (step HB3.out hB4)
          clear hB4
          have hr := lookI_run HO4.out nm HSz.out
          rw [HG2.out] at hr
          go_wp2_with fail
          go_ret
          exact ⟨rfl, HB4.out⟩)
      · rw [if_neg hc] at hg
        have HG := Aside0.mk (show (FM.get m nm.data.toList).getD 0 = 0 from by rw [hg]; rfl)
        have HG2 := Aside0.mk (show (FM.get (FM.put m nm.data.toList 1) nm.data.toList).getD 0 = 1 from by rw [FM.get_put_same]; rfl)
        have HM1 := Aside0.mk (seen_cons HM.out hc)
        cases hok : nmOk nm with
        | false =>
          have hdf : false = D := by have h1 := HDj.out; rw [hok] at h1; simpa using h1
          subst hdf
          have HOk := Aside0.mk hok
          clear hg hc hok
          go_wp2_with (first | (at_lookup; refine step_lookI rfl _ _ rfl b m rfl HO2.out nm rfl HSz.out ?_; rw [HG.out]) | (at_mapUpdate; refine step_putI rfl _ _ _ rfl b m rfl HO2.out hml nm 1 rfl rfl HSz.out ?_; intro w3 ho hg3; have HO3 := Aside0.mk ho; have HB3 := Aside0.mk (((Fr.of_below (S := fun k => k = b) HB2.out).grown hg3 (.inl rfl)).to_below fun k hk => by subst hk; exact HBW.out); clear ho hg3))
          refine (named_walk nm _ (by have := HSz.out; unfold maxLen at this; omega)).mono ?_
          rw [HOk.out]
          rintro e w4 ⟨rfl, hB4⟩
          have HO4 := Aside0.mk (ownI_below HO3.out hB4)
          have HB4 := Aside0.mk (step HB3.out hB4)
          clear hB4
          have hr := lookI_run HO4.out nm HSz.out
          rw [HG2.out] at hr
          go_wp2_with fail
          go_ret
          exact ⟨rfl, HB4.out⟩
        | true =>
          have HD1 := Aside0.mk (show dist (nm.data.toList :: seen) ((l.drop (j + 1)).map (·.nm)) = D from by have h1 := HDj.out; rw [hok, decide_eq_false hc] at h1; simpa using h1)
          have HOk := Aside0.mk hok
          clear hg hc hok
          go_wp2_with (first | (at_lookup; refine step_lookI rfl _ _ rfl b m rfl HO2.out nm rfl HSz.out ?_; rw [HG.out]) | (at_mapUpdate; refine step_putI rfl _ _ _ rfl b m rfl HO2.out hml nm 1 rfl rfl HSz.out ?_; intro w3 ho hg3; have HO3 := Aside0.mk ho; have HB3 := Aside0.mk (((Fr.of_below (S := fun k => k = b) HB2.out).grown hg3 (.inl rfl)).to_below fun k hk => by subst hk; exact HBW.out); clear ho hg3))
          refine (named_walk nm _ (by have := HSz.out; unfold maxLen at this; omega)).mono ?_
          rw [HOk.out]
          rintro e w4 ⟨rfl, hB4⟩
          have HO4 := Aside0.mk (ownI_below HO3.out hB4)
          have HB4 := Aside0.mk (step HB3.out hB4)
          clear hB4
          have hr := lookI_run HO4.out nm HSz.out
          rw [HG2.out] at hr
          go_wp2_with fail
          go_roundg kq1
          case measure => have := HJ.out; omega
          case rel => exact ⟨j + 1, _, nm.data.toList :: seen, by go_num, ⟨by have := HJ.out; omega, by have := HHj.out; omega, by have := HJ.out; simp only [List.length_cons]; omega⟩, HO4, HM1, HD1, HB4⟩
    · have hji : ¬ (j : Int) < (l.length : Int) := by omega
      have hdt : true = D := by have h1 := HD.out; rw [List.drop_of_length_le (by omega)] at h1; exact h1
      subst hdt
      go_wp2
      go_ret
      exact ⟨rfl, HB.out⟩
end Go.Proofs.Ytjehbnhjaogfkaa.Sc
