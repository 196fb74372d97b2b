import Derived.Test.YtdnmllodefbekaaDoorSha10
import Derived.Lib.ConvBytes
import Derived.ArgAppend
namespace Go.Proofs.YtdnmllodefbekaaDoor.Sha
open Go.RowKit Go.Lib Go.Proofs.YtdnmllodefbekaaDoorW.PrintWords Go.Proofs.YtdnmllodefbekaaDoorW.PrintLast Go.Proofs.YtdnmllodefbekaaDoorW.PrintMore
set_option linter.unusedVariables false
set_option linter.unusedSimpArgs false
/-- A row of bytes of the call's own; its block may be marked behind its end. -/
def FRow (w : World) (base : Nat) (v : Value) (xs : List Int) : Prop :=
  ∃ g cap, v = .slice (some ⟨g, 0, none⟩) xs.length cap ∧ base ≤ g ∧ xs.length ≤ cap ∧ cap ≤ maxLen ∧ (∃ cs z, w.heap[g]? = some (.cells cs 5 z)) ∧ (∀ j, j < xs.length → w.cell? ⟨g, j, none⟩ = some (.int .u8 (rd xs (j : Int)))) ∧ ∀ j, j < cap → (w.cell? ⟨g, j, none⟩).isSome = true ∧ w.frozen? ⟨g, j, none⟩ = false
theorem FRow.slice {w : World} {base : Nat} {v : Value} {xs : List Int} (h : FRow w base v xs) : ∃ g cap, v = .slice (some ⟨g, 0, none⟩) xs.length cap ∧ xs.length ≤ cap := by
  obtain ⟨g, cap, hv, _, hc, _⟩ := h
  exact ⟨g, cap, hv, hc⟩
theorem FRow.reads {w : World} {base g cap : Nat} {xs : List Int} (h : FRow w base (.slice (some ⟨g, 0, none⟩) xs.length cap) xs) : ∀ j, j < xs.length → w.cell? ⟨g, j, none⟩ = some (.int .u8 (rd xs (j : Int))) := by
  obtain ⟨g', cap', hv, _, _, _, _, hr, _⟩ := h
  cases hv
  exact hr
theorem lt_of_blk {w : World} {g : Nat} (h : ∃ cs z, w.heap[g]? = some (.cells cs 5 z)) : g < w.heap.size := by
  obtain ⟨cs, z, h⟩ := h
  exact (Array.getElem?_eq_some_iff.1 h).1
theorem FRow.move {w w1 : World} {base : Nat} {v : Value} {xs : List Int} (h : FRow w base v xs) (hb : Below w.heap.size w w1) : FRow w1 base v xs := by
  obtain ⟨g, cap, hv, h1, h2, h3, h4, h5, h6⟩ := h
  have h4' := lt_of_blk h4
  refine ⟨g, cap, hv, h1, h2, h3, h4.imp fun _ h => h.imp fun _ h => (hb.block g h4').trans h, fun j hj => (hb.cell (p := ⟨g, j, none⟩) h4').trans (h5 j hj), fun j hj => ?_⟩
  rw [hb.cell (p := ⟨g, j, none⟩) h4', hb.frozen (p := ⟨g, j, none⟩) h4']
  exact h6 j hj
theorem set_typed {w : World} {g : Nat} (h : ∃ cs z, w.heap[g]? = some (.cells cs 5 z)) (j : Nat) (v : Value) : ∃ cs z, (w.setCell ⟨g, j, none⟩ v).heap[g]? = some (.cells cs 5 z) := by
  obtain ⟨cs, z, h⟩ := h
  simp [World.setCell, Array.getElem?_modify, h]
theorem rd_snoc_lt (xs : List Int) (x : Int) (j : Nat) (h : j < xs.length) : rd (xs ++ [x]) (j : Int) = rd xs (j : Int) := by
  simp [rd, List.getD_eq_getElem?_getD, List.getElem?_append_left h]
theorem rd_snoc_eq (xs : List Int) (x : Int) : rd (xs ++ [x]) (xs.length : Int) = x := by
  simp [rd, List.getD_eq_getElem?_getD]
theorem f_append (W : World) (base : Nat) (t ty : TypeId) (ht : Tryd.prog.underlying t = some (.slice 5)) (v : Value) (xs : List Int) (h : FRow W base v xs) (hbase : base ≤ W.heap.size) (ad : Addr) (c : Nat) (x : Int) (hx : W.cell? ad = some (.int .u8 x)) (hs : ad.spot = none) (hn : xs.length + 1 ≤ 140737488355328) :
    ∃ v' w', (Builtin.append_ #[t, t] ty #[v, .slice (some ad) 1 c]).run Tryd.prog W = .ok v' w' ∧ FRow w' base v' (xs ++ [x]) ∧ W.grownBy w' v.ownBlock := by
  obtain ⟨i0, hi, hzz⟩ := Option.map_eq_some_iff.1 info5
  simp only [Prod.mk.injEq] at hzz
  obtain ⟨g, cap, rfl, h1, h2, h3, h4, h5, h6⟩ := h
  have hnews : ∀ j u, [Value.int .u8 x][j]? = some u → W.cell? (ad.add j) = some u := fun j u hj => by
    cases j with
    | zero => simp at hj; subst hj; obtain ⟨a, b, c⟩ := ad; simpa [Addr.add] using hx
    | succ j => simp at hj
  by_cases hr : xs.length + 1 ≤ cap
  · have hrun := run_append_room_cells (P := Tryd.prog) W t ty 5 i0 ht hi g 0 xs.length cap ad 1 c [.int .u8 x] (by rw [hzz.2.1]; rfl) hnews (by simp [Value.oneCell']) hr (fun j hj => by
      have : j = 0 := by simpa using hj
      subst this
      rw [hzz.2.1]; simpa using (h6 xs.length (by omega)).1) (fun j hj => by
      have : j = 0 := by simpa using hj
      subst this
      rw [hzz.2.1]; simpa using (h6 xs.length (by omega)).2)
    have e : W.setCells g (0 + xs.length * i0.size) [.int .u8 x] = W.setCell ⟨g, xs.length, none⟩ (.int .u8 x) := by
      rw [hzz.2.1, Nat.zero_add, Nat.mul_one]; rfl
    rw [e] at hrun
    refine ⟨_, _, hrun, ⟨g, cap, by rw [List.length_append]; rfl, h1, by rw [List.length_append]; exact hr, h3, set_typed h4 _ _, fun j hj => ?_, fun j hj => ?_⟩, ⟨rfl, rfl, rfl, by simp [World.setCell], fun k hk hne => Below.heap_setCell W ⟨g, xs.length, none⟩ _ k fun e => hne (by rw [e]; rfl)⟩⟩
    · rw [List.length_append] at hj
      by_cases hjl : j < xs.length
      · rw [World.cell?_setCell_other W ⟨g, xs.length, none⟩ ⟨g, j, none⟩ _ (fun e => absurd (congrArg Addr.off e) (show ¬ xs.length = j by omega)), rd_snoc_lt _ _ _ hjl]
        exact h5 j hjl
      · have : j = xs.length := by simp at hj; omega
        subst this
        rw [rd_snoc_eq]
        exact World.cell?_setCell_same' W _ _ (h6 xs.length (by omega)).1
    · rw [World.frozen?_setCell]
      refine ⟨?_, (h6 j hj).2⟩
      by_cases hjl : j = xs.length
      · subst hjl
        rw [World.cell?_setCell_same' W _ _ (h6 xs.length hj).1]; rfl
      · rw [World.cell?_setCell_other W ⟨g, xs.length, none⟩ ⟨g, j, none⟩ _ (fun e => hjl (congrArg Addr.off e).symm)]
        exact (h6 j hj).1
  · obtain ⟨v', w', hrun, hown, hg⟩ := run_append_arg_grows (P := Tryd.prog) W t ty 5 i0 (.int .u8 0) 1 1 ht hi hzz.1 hzz.2.1 hzz.2.2 rfl (by decide) ⟨g, 0, none⟩ xs.length cap (nums .u8 xs) (by simp [nums]) (fun j u hj => by
      have hj' : j < xs.length := by
        have := (List.getElem?_eq_some_iff.1 hj).1
        simpa [nums] using this
      have h7 := h5 j hj'
      have hz : (nums .u8 xs)[j]? = some (.int .u8 (rd xs (j : Int))) := by
        have := nums_cell .u8 xs j hj'
        simpa using this
      rw [hj] at hz
      rw [add_plain, h7, hz]) ad 1 c [.int .u8 x] rfl hnews (by omega) (by unfold maxLen; omega) (by omega)
    refine ⟨v', w', hrun, ?_, ⟨hg.os, hg.tape, hg.output, hg.size, fun k hk _ => hg.block k hk (by simp)⟩⟩
    obtain ⟨hl, hv | ⟨g2, cap2, cur, rfl, hb2, hh2, hn2, hm2, hc2, ht2⟩⟩ := hown
    · exact absurd hv.2 (by omega)
    · refine ⟨g2, cap2, by rw [List.length_append]; rfl, Nat.le_trans hbase hb2, by rw [List.length_append]; exact hn2, hm2, ⟨_, _, hh2⟩, fun j hj => ?_, fun j hj => ?_⟩
      · rw [blk_cell hh2 j]
        have hjc : j < (xs ++ [x]).length := hj
        have e2 : cur[j]? = (cur.toList.take ((xs.length + 1) * 1))[j]? := by
          rw [List.getElem?_take, if_pos (by rw [List.length_append] at hjc; simp at hjc; omega)]; simp
        rw [e2, ht2, show nums .u8 xs ++ [Value.int .u8 x] = nums .u8 (xs ++ [x]) by simp [nums]]
        simp only [nums, List.getElem?_map, rd, List.getD_eq_getElem?_getD, Int.toNat_natCast]
        rw [List.getElem?_eq_getElem hjc]; rfl
      · rw [Nat.mul_one] at hc2
        refine ⟨?_, blk_frozen hh2 j⟩
        rw [blk_cell hh2 j, Array.getElem?_eq_getElem (by omega)]; rfl
theorem f_conv (W : World) (s : ByteArray) (hsz : s.size ≤ maxLen) : FRow (Lib.bytesWorld W 5 s) W.heap.size (.slice (some ⟨W.heap.size, 0, none⟩) s.size (grownCap W s.size 0 5)) (bytesOf s) := by
  have hge := grownCap_ge W s.size 0 5
  have hcm := grownCap_le_maxLen W s.size 0 5 hsz
  have hcs : (Lib.bytesCells W 5 s).size = grownCap W s.size 0 5 := by
    simp only [Lib.bytesCells, Array.size_append, Array.size_map, Array.size_replicate]
    show s.size + _ = _
    omega
  refine ⟨W.heap.size, grownCap W s.size 0 5, by rw [bytesOf_length], Nat.le_refl _, by rw [bytesOf_length]; exact hge, hcm, ⟨_, _, Lib.bytesWorld_at_new W 5 s⟩, fun j hj => ?_, fun j hj => ?_⟩
  · rw [bytesOf_length] at hj
    obtain ⟨ad, he, hr⟩ := (bytes_reads W 5 s (by unfold maxLen at hsz; omega)).2.2 (by omega)
    obtain rfl := Option.some.inj he
    have := hr j hj
    rw [add_plain] at this
    rw [this]
    simp [rd]
  · constructor
    · have hb := Lib.bytesWorld_at_new W 5 s
      have hx : j < (Lib.bytesCells W 5 s).size := by omega
      simp [World.cell?, hb, hx]
    · simp [World.frozen?, Lib.bytesWorld_at_new]
      omega
/-- '[]byte(s)' at the operation. -/
theorem step_conv {ops : Array Oper} {rest : List Oper} {o : Oper} {a : Act} {Q : Exit → Act → World → Prop} {W : World} (hgd : o.guard = none) (src dst : TypeId) (x : Operand) (ho : o.op = .convert src dst x) (s : ByteArray) (hx : a.eval x = .string s)
    (hs : Tryd.prog.underlying src = some .string) (hd : Tryd.prog.underlying dst = some (.slice 5)) (hsz : s.size ≤ maxLen)
    (h : ∀ (W1 : World) (v : Value), Below W.heap.size W W1 → FRow W1 W.heap.size v (bytesOf s) → wpList Tryd.prog ops Q rest (a.put o.dst v) W1) : wpList Tryd.prog ops Q (o :: rest) a W := by
  refine Kd.event_run hgd (v := .slice (some ⟨W.heap.size, 0, none⟩) s.size (grownCap W s.size 0 5)) (w1 := Lib.bytesWorld W 5 s) ?_ (h _ _ (bytes_below (Below.refl _ _) (Nat.le_refl _) 5 s) (f_conv W s hsz))
  simp [execOp, ho, hx, print_bytes src dst 5 hs hd Tryd.underlying5 s W]
/-- 'append(m, x)' at the operation. -/
theorem step_fapp {ops : Array Oper} {rest : List Oper} {o : Oper} {a : Act} {Q : Exit → Act → World → Prop} {W : World} (base : Nat) (hgd : o.guard = none) (m x : Operand) (t : TypeId) (ho : o.op = .call { callee := .builtin .append, args := #[m, x], argTypes := #[t, t] }) (ht : Tryd.prog.underlying t = some (.slice 5))
    (v : Value) (xs : List Int) (hm : a.eval m = v) (hF : FRow W base v xs) (hbase : base ≤ W.heap.size) (ad : Addr) (c : Nat) (y : Int) (hx : a.eval x = .slice (some ad) 1 c) (hy : W.cell? ad = some (.int .u8 y)) (hs : ad.spot = none) (hn : xs.length + 1 ≤ 140737488355328)
    (h : ∀ (v1 : Value) (W1 : World), FRow W1 base v1 (xs ++ [y]) → W.grownBy W1 v.ownBlock → wpList Tryd.prog ops Q rest (a.put o.dst v1) W1) : wpList Tryd.prog ops Q (o :: rest) a W := by
  obtain ⟨v1, W1, hrun, hF1, hg⟩ := f_append W base t o.type ht v xs hF hbase ad c y hy hs hn
  refine Kd.event_run hgd (v := v1) (w1 := W1) ?_ (h v1 W1 hF1 hg)
  simp [execOp, ho, resolve, invoke, builtin, hm, hx, hrun, Result.andThen]
theorem FRow.base_le {w : World} {base : Nat} {v : Value} {xs : List Int} (h : FRow w base v xs) : ∀ k, v.ownBlock = some k → base ≤ k := fun k hk => by
  obtain ⟨g, cap, rfl, h1, _⟩ := h
  cases hk
  exact h1
section
variable {w w1 : World} {base : Nat} {v : Value} {xs : List Int}
theorem FR_below (h : FRow w base v xs) (hb : Below w.heap.size w w1) : FRow w1 base v xs := h.move hb
theorem FR_alloc (h : FRow w base v xs) (o : Obj) : FRow (w.alloc o) base v xs := FR_below h (below_alloc (Below.refl _ _) o)
theorem FR_drew (h : FRow w base v xs) : FRow w.drew base v xs := FR_below h (below_drew (Below.refl _ _))
theorem FR_drewN (h : FRow w base v xs) (m : Nat) : FRow (w.drewN m) base v xs := FR_below h (pw_below_drewN (Below.refl _ _) m)
theorem FR_lower (h : FRow w base v xs) {b : Nat} (hb : b ≤ base) : FRow w b v xs := by
  obtain ⟨g, cap, hv, h1, h2⟩ := h
  exact ⟨g, cap, hv, Nat.le_trans hb h1, h2⟩
theorem FR_slice (h : FRow w base v xs) : ∃ A c, v = .slice A xs.length c := by
  obtain ⟨g, cap, hv, _⟩ := h
  exact ⟨_, _, hv⟩
theorem FR_typed (h : FRow w base v xs) : ∀ k, v.ownBlock = some k → ∃ cells z, w.heap[k]? = some (.cells cells 5 z) := fun k hk => by
  obtain ⟨g, cap, rfl, _, _, _, h, _⟩ := h
  cases hk
  exact h
theorem FR_reads' {A : Option Addr} {n c : Nat} (h : FRow w base (.slice A n c) xs) : n = xs.length ∧ n ≤ c ∧ Kd.C (Kd.int .u8) w A xs.length xs := by
  obtain ⟨g, cap, hv, h1, h2, h3, h4, h5, h6⟩ := h
  injection hv with e1 e2 e3
  subst e1 e2 e3
  refine ⟨rfl, h2, Kd.C_of_reads (enc := fun z => .int .u8 z) (d := 0) (h1 := fun _ => rfl) ⟨rfl, by unfold maxLen at h3; omega, fun _ => ⟨_, rfl, fun j hj => ?_⟩⟩⟩
  rw [add_plain, h5 j hj]
  simp [rd, List.getD_eq_getElem?_getD]
theorem R_overF {α : Type} {d : Kd α} {e : Nat} {ok : Nat → Prop} {u : Value} {ys : List α} (h : d.R e w base ok u ys) {base' : Nat} (hF : FRow w base' v xs) (ht : ∀ q, q ∈ e :: d.E → q ≠ 5) (hg : w.grownBy w1 v.ownBlock) : d.R e w1 base ok u ys := by
  refine Kd.R_mono (Kd.R_move (Kd.R_bound h) (fun k hk => hg.block k hk.2.2.1 (fun he => ?_))) (fun _ hk => hk.1)
  obtain ⟨_, _, _, q, hq, cells, hc⟩ := hk
  obtain ⟨cells', z, hc'⟩ := FR_typed hF k he.symm
  rw [hc] at hc'
  injection hc' with hc'
  injection hc' with _ hc'
  exact ht q hq hc'
end
theorem FR_append {ops : Array Oper} {rest : List Oper} {o : Oper} {a : Act} {Q : Exit → Act → World → Prop} {w0 W : World} (base : Nat) (hgd : o.guard = none) (m x : Operand) (t : TypeId) (ho : o.op = .call { callee := .builtin .append, args := #[m, x], argTypes := #[t, t] }) (ht : Tryd.prog.underlying t = some (.slice 5))
    (v : Value) (xs : List Int) (y : Int) (hm : a.eval m = v) (hx : a.eval x = .slice (some ⟨W.heap.size, 0, none⟩) 1 1) (HO : FRow W base v xs) (HB : Below base w0 W) (hbase : base ≤ W.heap.size) (hl : (xs.length + 1) * 1 ≤ 140737488355328)
    (h : ∀ v1 w1, FRow w1 base v1 (xs ++ [y]) → Below base w0 w1 → W.grownBy w1 v.ownBlock → True → wpList Tryd.prog ops Q rest (a.put o.dst v1) w1) :
    wpList Tryd.prog ops Q (o :: rest) a (W.alloc (.cells #[.int .u8 y] 5)) := by
  have hnew := heap_alloc_new W (.cells #[.int .u8 y] 5)
  refine step_fapp base hgd m x t ho ht v xs hm (FR_alloc HO _) (by simp; omega) ⟨W.heap.size, 0, none⟩ 1 y hx (by rw [blk_cell hnew 0]; rfl) rfl (by omega) ?_
  intro v1 w1 hF hg
  exact h v1 w1 hF ((HB.alloc hbase _).grown hg (by simp; omega) HO.base_le) (World.grownBy.trans (World.grownBy_alloc W _ _) hg) trivial
end Go.Proofs.YtdnmllodefbekaaDoor.Sha
