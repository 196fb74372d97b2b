/- Md: the texts Sha20, Sha21, Sha22, Sha23a, Sha23b, Sha23c, Sha24, Sha25, Sha26, Sha27, one behind the other. -/
import Derived.Test.YtdnmllodefbekaaDoorMa
import Derived.Lib.ConvBytes
import Derived.ArgAppend
import Derived.Test.YtdnmllodefbekaaDoorHShaSumsx
section
namespace Go.Proofs.YtdnmllodefbekaaDoor.Sha
open Go.RowKit Go.Lib Go.Proofs.YtdnmllodefbekaaDoorW.PrintWords Go.Proofs.YtdnmllodefbekaaDoorW.PrintLast Go.Proofs.YtdnmllodefbekaaDoorW.PrintMore
set_option linter.unusedVariables false
set_option linter.unusedSimpArgs false
/-- A row of bytes of the call's own; its block may be marked behind its end. -/
def FRow (w : World) (base : Nat) (v : Value) (xs : List Int) : Prop :=
  ∃ g cap, v = .slice (some ⟨g, 0, none⟩) xs.length cap ∧ base ≤ g ∧ xs.length ≤ cap ∧ cap ≤ maxLen ∧ (∃ cs z, w.heap[g]? = some (.cells cs 5 z)) ∧ (∀ j, j < xs.length → w.cell? ⟨g, j, none⟩ = some (.int .u8 (rd xs (j : Int)))) ∧ ∀ j, j < cap → (w.cell? ⟨g, j, none⟩).isSome = true ∧ w.frozen? ⟨g, j, none⟩ = false
theorem FRow.slice {w : World} {base : Nat} {v : Value} {xs : List Int} (h : FRow w base v xs) : ∃ g cap, v = .slice (some ⟨g, 0, none⟩) xs.length cap ∧ xs.length ≤ cap := by
  obtain ⟨g, cap, hv, _, hc, _⟩ := h
  exact ⟨g, cap, hv, hc⟩
theorem FRow.reads {w : World} {base g cap : Nat} {xs : List Int} (h : FRow w base (.slice (some ⟨g, 0, none⟩) xs.length cap) xs) : ∀ j, j < xs.length → w.cell? ⟨g, j, none⟩ = some (.int .u8 (rd xs (j : Int))) := by
  obtain ⟨g', cap', hv, _, _, _, _, hr, _⟩ := h
  cases hv
  exact hr
theorem lt_of_blk {w : World} {g : Nat} (h : ∃ cs z, w.heap[g]? = some (.cells cs 5 z)) : g < w.heap.size := by
  obtain ⟨cs, z, h⟩ := h
  exact (Array.getElem?_eq_some_iff.1 h).1
theorem FRow.move {w w1 : World} {base : Nat} {v : Value} {xs : List Int} (h : FRow w base v xs) (hb : Below w.heap.size w w1) : FRow w1 base v xs := by
  obtain ⟨g, cap, hv, h1, h2, h3, h4, h5, h6⟩ := h
  have h4' := lt_of_blk h4
  refine ⟨g, cap, hv, h1, h2, h3, h4.imp fun _ h => h.imp fun _ h => (hb.block g h4').trans h, fun j hj => (hb.cell (p := ⟨g, j, none⟩) h4').trans (h5 j hj), fun j hj => ?_⟩
  rw [hb.cell (p := ⟨g, j, none⟩) h4', hb.frozen (p := ⟨g, j, none⟩) h4']
  exact h6 j hj
theorem set_typed {w : World} {g : Nat} (h : ∃ cs z, w.heap[g]? = some (.cells cs 5 z)) (j : Nat) (v : Value) : ∃ cs z, (w.setCell ⟨g, j, none⟩ v).heap[g]? = some (.cells cs 5 z) := by
  obtain ⟨cs, z, h⟩ := h
  simp [World.setCell, Array.getElem?_modify, h]
theorem rd_snoc_lt (xs : List Int) (x : Int) (j : Nat) (h : j < xs.length) : rd (xs ++ [x]) (j : Int) = rd xs (j : Int) := by
  simp [rd, List.getD_eq_getElem?_getD, List.getElem?_append_left h]
theorem rd_snoc_eq (xs : List Int) (x : Int) : rd (xs ++ [x]) (xs.length : Int) = x := by
  simp [rd, List.getD_eq_getElem?_getD]
theorem f_append (W : World) (base : Nat) (t ty : TypeId) (ht : Tryd.prog.underlying t = some (.slice 5)) (v : Value) (xs : List Int) (h : FRow W base v xs) (hbase : base ≤ W.heap.size) (ad : Addr) (c : Nat) (x : Int) (hx : W.cell? ad = some (.int .u8 x)) (hs : ad.spot = none) (hn : xs.length + 1 ≤ 140737488355328) :
    ∃ v' w', (Builtin.append_ #[t, t] ty #[v, .slice (some ad) 1 c]).run Tryd.prog W = .ok v' w' ∧ FRow w' base v' (xs ++ [x]) ∧ W.grownBy w' v.ownBlock := by
  obtain ⟨i0, hi, hzz⟩ := Option.map_eq_some_iff.1 info5
  simp only [Prod.mk.injEq] at hzz
  obtain ⟨g, cap, rfl, h1, h2, h3, h4, h5, h6⟩ := h
  have hnews : ∀ j u, [Value.int .u8 x][j]? = some u → W.cell? (ad.add j) = some u := fun j u hj => by
    cases j with
    | zero => simp at hj; subst hj; obtain ⟨a, b, c⟩ := ad; simpa [Addr.add] using hx
    | succ j => simp at hj
  by_cases hr : xs.length + 1 ≤ cap
  · have hrun := run_append_room_cells (P := Tryd.prog) W t ty 5 i0 ht hi g 0 xs.length cap ad 1 c [.int .u8 x] (by rw [hzz.2.1]; rfl) hnews (by simp [Value.oneCell']) hr (fun j hj => by
      have : j = 0 := by simpa using hj
      subst this
      rw [hzz.2.1]; simpa using (h6 xs.length (by omega)).1) (fun j hj => by
      have : j = 0 := by simpa using hj
      subst this
      rw [hzz.2.1]; simpa using (h6 xs.length (by omega)).2)
    have e : W.setCells g (0 + xs.length * i0.size) [.int .u8 x] = W.setCell ⟨g, xs.length, none⟩ (.int .u8 x) := by
      rw [hzz.2.1, Nat.zero_add, Nat.mul_one]; rfl
    rw [e] at hrun
    refine ⟨_, _, hrun, ⟨g, cap, by rw [List.length_append]; rfl, h1, by rw [List.length_append]; exact hr, h3, set_typed h4 _ _, fun j hj => ?_, fun j hj => ?_⟩, ⟨rfl, rfl, rfl, by simp [World.setCell], fun k hk hne => Below.heap_setCell W ⟨g, xs.length, none⟩ _ k fun e => hne (by rw [e]; rfl)⟩⟩
    · rw [List.length_append] at hj
      by_cases hjl : j < xs.length
      · rw [World.cell?_setCell_other W ⟨g, xs.length, none⟩ ⟨g, j, none⟩ _ (fun e => absurd (congrArg Addr.off e) (show ¬ xs.length = j by omega)), rd_snoc_lt _ _ _ hjl]
        exact h5 j hjl
      · have : j = xs.length := by simp at hj; omega
        subst this
        rw [rd_snoc_eq]
        exact World.cell?_setCell_same' W _ _ (h6 xs.length (by omega)).1
    · rw [World.frozen?_setCell]
      refine ⟨?_, (h6 j hj).2⟩
      by_cases hjl : j = xs.length
      · subst hjl
        rw [World.cell?_setCell_same' W _ _ (h6 xs.length hj).1]; rfl
      · rw [World.cell?_setCell_other W ⟨g, xs.length, none⟩ ⟨g, j, none⟩ _ (fun e => hjl (congrArg Addr.off e).symm)]
        exact (h6 j hj).1
  · obtain ⟨v', w', hrun, hown, hg⟩ := run_append_arg_grows (P := Tryd.prog) W t ty 5 i0 (.int .u8 0) 1 1 ht hi hzz.1 hzz.2.1 hzz.2.2 rfl (by decide) ⟨g, 0, none⟩ xs.length cap (nums .u8 xs) (by simp [nums]) (fun j u hj => by
      have hj' : j < xs.length := by
        have := (List.getElem?_eq_some_iff.1 hj).1
        simpa [nums] using this
      have h7 := h5 j hj'
      have hz : (nums .u8 xs)[j]? = some (.int .u8 (rd xs (j : Int))) := by
        have := nums_cell .u8 xs j hj'
        simpa using this
      rw [hj] at hz
      rw [add_plain, h7, hz]) ad 1 c [.int .u8 x] rfl hnews (by omega) (by unfold maxLen; omega) (by omega)
    refine ⟨v', w', hrun, ?_, ⟨hg.os, hg.tape, hg.output, hg.size, fun k hk _ => hg.block k hk (by simp)⟩⟩
    obtain ⟨hl, hv | ⟨g2, cap2, cur, rfl, hb2, hh2, hn2, hm2, hc2, ht2⟩⟩ := hown
    · exact absurd hv.2 (by omega)
    · refine ⟨g2, cap2, by rw [List.length_append]; rfl, Nat.le_trans hbase hb2, by rw [List.length_append]; exact hn2, hm2, ⟨_, _, hh2⟩, fun j hj => ?_, fun j hj => ?_⟩
      · rw [blk_cell hh2 j]
        have hjc : j < (xs ++ [x]).length := hj
        have e2 : cur[j]? = (cur.toList.take ((xs.length + 1) * 1))[j]? := by
          rw [List.getElem?_take, if_pos (by rw [List.length_append] at hjc; simp at hjc; omega)]; simp
        rw [e2, ht2, show nums .u8 xs ++ [Value.int .u8 x] = nums .u8 (xs ++ [x]) by simp [nums]]
        simp only [nums, List.getElem?_map, rd, List.getD_eq_getElem?_getD, Int.toNat_natCast]
        rw [List.getElem?_eq_getElem hjc]; rfl
      · rw [Nat.mul_one] at hc2
        refine ⟨?_, blk_frozen hh2 j⟩
        rw [blk_cell hh2 j, Array.getElem?_eq_getElem (by omega)]; rfl
theorem f_conv (W : World) (s : ByteArray) (hsz : s.size ≤ maxLen) : FRow (Lib.bytesWorld W 5 s) W.heap.size (.slice (some ⟨W.heap.size, 0, none⟩) s.size (grownCap W s.size 0 5)) (bytesOf s) := by
  have hge := grownCap_ge W s.size 0 5
  have hcm := grownCap_le_maxLen W s.size 0 5 hsz
  have hcs : (Lib.bytesCells W 5 s).size = grownCap W s.size 0 5 := by
    simp only [Lib.bytesCells, Array.size_append, Array.size_map, Array.size_replicate]
    show s.size + _ = _
    omega
  refine ⟨W.heap.size, grownCap W s.size 0 5, by rw [bytesOf_length], Nat.le_refl _, by rw [bytesOf_length]; exact hge, hcm, ⟨_, _, Lib.bytesWorld_at_new W 5 s⟩, fun j hj => ?_, fun j hj => ?_⟩
  · rw [bytesOf_length] at hj
    obtain ⟨ad, he, hr⟩ := (bytes_reads W 5 s (by unfold maxLen at hsz; omega)).2.2 (by omega)
    obtain rfl := Option.some.inj he
    have := hr j hj
    rw [add_plain] at this
    rw [this]
    simp [rd]
  · constructor
    · have hb := Lib.bytesWorld_at_new W 5 s
      have hx : j < (Lib.bytesCells W 5 s).size := by omega
      simp [World.cell?, hb, hx]
    · simp [World.frozen?, Lib.bytesWorld_at_new]
      omega
/-- '[]byte(s)' at the operation. -/
theorem step_conv {ops : Array Oper} {rest : List Oper} {o : Oper} {a : Act} {Q : Exit → Act → World → Prop} {W : World} (hgd : o.guard = none) (src dst : TypeId) (x : Operand) (ho : o.op = .convert src dst x) (s : ByteArray) (hx : a.eval x = .string s)
    (hs : Tryd.prog.underlying src = some .string) (hd : Tryd.prog.underlying dst = some (.slice 5)) (hsz : s.size ≤ maxLen)
    (h : ∀ (W1 : World) (v : Value), Below W.heap.size W W1 → FRow W1 W.heap.size v (bytesOf s) → wpList Tryd.prog ops Q rest (a.put o.dst v) W1) : wpList Tryd.prog ops Q (o :: rest) a W := by
  refine Kd.event_run hgd (v := .slice (some ⟨W.heap.size, 0, none⟩) s.size (grownCap W s.size 0 5)) (w1 := Lib.bytesWorld W 5 s) ?_ (h _ _ (bytes_below (Below.refl _ _) (Nat.le_refl _) 5 s) (f_conv W s hsz))
  simp [execOp, ho, hx, print_bytes src dst 5 hs hd Tryd.underlying5 s W]
/-- 'append(m, x)' at the operation. -/
theorem step_fapp {ops : Array Oper} {rest : List Oper} {o : Oper} {a : Act} {Q : Exit → Act → World → Prop} {W : World} (base : Nat) (hgd : o.guard = none) (m x : Operand) (t : TypeId) (ho : o.op = .call { callee := .builtin .append, args := #[m, x], argTypes := #[t, t] }) (ht : Tryd.prog.underlying t = some (.slice 5))
    (v : Value) (xs : List Int) (hm : a.eval m = v) (hF : FRow W base v xs) (hbase : base ≤ W.heap.size) (ad : Addr) (c : Nat) (y : Int) (hx : a.eval x = .slice (some ad) 1 c) (hy : W.cell? ad = some (.int .u8 y)) (hs : ad.spot = none) (hn : xs.length + 1 ≤ 140737488355328)
    (h : ∀ (v1 : Value) (W1 : World), FRow W1 base v1 (xs ++ [y]) → W.grownBy W1 v.ownBlock → wpList Tryd.prog ops Q rest (a.put o.dst v1) W1) : wpList Tryd.prog ops Q (o :: rest) a W := by
  obtain ⟨v1, W1, hrun, hF1, hg⟩ := f_append W base t o.type ht v xs hF hbase ad c y hy hs hn
  refine Kd.event_run hgd (v := v1) (w1 := W1) ?_ (h v1 W1 hF1 hg)
  simp [execOp, ho, resolve, invoke, builtin, hm, hx, hrun, Result.andThen]
theorem FRow.base_le {w : World} {base : Nat} {v : Value} {xs : List Int} (h : FRow w base v xs) : ∀ k, v.ownBlock = some k → base ≤ k := fun k hk => by
  obtain ⟨g, cap, rfl, h1, _⟩ := h
  cases hk
  exact h1
section
variable {w w1 : World} {base : Nat} {v : Value} {xs : List Int}
theorem FR_below (h : FRow w base v xs) (hb : Below w.heap.size w w1) : FRow w1 base v xs := h.move hb
theorem FR_alloc (h : FRow w base v xs) (o : Obj) : FRow (w.alloc o) base v xs := FR_below h (below_alloc (Below.refl _ _) o)
theorem FR_drew (h : FRow w base v xs) : FRow w.drew base v xs := FR_below h (below_drew (Below.refl _ _))
theorem FR_drewN (h : FRow w base v xs) (m : Nat) : FRow (w.drewN m) base v xs := FR_below h (pw_below_drewN (Below.refl _ _) m)
theorem FR_lower (h : FRow w base v xs) {b : Nat} (hb : b ≤ base) : FRow w b v xs := by
  obtain ⟨g, cap, hv, h1, h2⟩ := h
  exact ⟨g, cap, hv, Nat.le_trans hb h1, h2⟩
theorem FR_slice (h : FRow w base v xs) : ∃ A c, v = .slice A xs.length c := by
  obtain ⟨g, cap, hv, _⟩ := h
  exact ⟨_, _, hv⟩
theorem FR_typed (h : FRow w base v xs) : ∀ k, v.ownBlock = some k → ∃ cells z, w.heap[k]? = some (.cells cells 5 z) := fun k hk => by
  obtain ⟨g, cap, rfl, _, _, _, h, _⟩ := h
  cases hk
  exact h
theorem FR_reads' {A : Option Addr} {n c : Nat} (h : FRow w base (.slice A n c) xs) : n = xs.length ∧ n ≤ c ∧ Kd.C (Kd.int .u8) w A xs.length xs := by
  obtain ⟨g, cap, hv, h1, h2, h3, h4, h5, h6⟩ := h
  injection hv with e1 e2 e3
  subst e1 e2 e3
  refine ⟨rfl, h2, Kd.C_of_reads (enc := fun z => .int .u8 z) (d := 0) (h1 := fun _ => rfl) ⟨rfl, by unfold maxLen at h3; omega, fun _ => ⟨_, rfl, fun j hj => ?_⟩⟩⟩
  rw [add_plain, h5 j hj]
  simp [rd, List.getD_eq_getElem?_getD]
theorem R_overF {α : Type} {d : Kd α} {e : Nat} {ok : Nat → Prop} {u : Value} {ys : List α} (h : d.R e w base ok u ys) {base' : Nat} (hF : FRow w base' v xs) (ht : ∀ q, q ∈ e :: d.E → q ≠ 5) (hg : w.grownBy w1 v.ownBlock) : d.R e w1 base ok u ys := by
  refine Kd.R_mono (Kd.R_move (Kd.R_bound h) (fun k hk => hg.block k hk.2.2.1 (fun he => ?_))) (fun _ hk => hk.1)
  obtain ⟨_, _, _, q, hq, cells, hc⟩ := hk
  obtain ⟨cells', z, hc'⟩ := FR_typed hF k he.symm
  rw [hc] at hc'
  injection hc' with hc'
  injection hc' with _ hc'
  exact ht q hq hc'
end
theorem FR_append {ops : Array Oper} {rest : List Oper} {o : Oper} {a : Act} {Q : Exit → Act → World → Prop} {w0 W : World} (base : Nat) (hgd : o.guard = none) (m x : Operand) (t : TypeId) (ho : o.op = .call { callee := .builtin .append, args := #[m, x], argTypes := #[t, t] }) (ht : Tryd.prog.underlying t = some (.slice 5))
    (v : Value) (xs : List Int) (y : Int) (hm : a.eval m = v) (hx : a.eval x = .slice (some ⟨W.heap.size, 0, none⟩) 1 1) (HO : FRow W base v xs) (HB : Below base w0 W) (hbase : base ≤ W.heap.size) (hl : (xs.length + 1) * 1 ≤ 140737488355328)
    (h : ∀ v1 w1, FRow w1 base v1 (xs ++ [y]) → Below base w0 w1 → W.grownBy w1 v.ownBlock → True → wpList Tryd.prog ops Q rest (a.put o.dst v1) w1) :
    wpList Tryd.prog ops Q (o :: rest) a (W.alloc (.cells #[.int .u8 y] 5)) := by
  have hnew := heap_alloc_new W (.cells #[.int .u8 y] 5)
  refine step_fapp base hgd m x t ho ht v xs hm (FR_alloc HO _) (by simp; omega) ⟨W.heap.size, 0, none⟩ 1 y hx (by rw [blk_cell hnew 0]; rfl) rfl (by omega) ?_
  intro v1 w1 hF hg
  exact h v1 w1 hF ((HB.alloc hbase _).grown hg (by simp; omega) HO.base_le) (World.grownBy.trans (World.grownBy_alloc W _ _) hg) trivial
end Go.Proofs.YtdnmllodefbekaaDoor.Sha
end

section
/- The document's digest (Sum): what it computes, and that it does. Written by a program of this session (wip/tools/handprint.py, wip/r2/mk_refsum.py) out of the translation. -/
namespace Go.Proofs.YtdnmllodefbekaaDoor.HShaSums
open Go.Proofs.YtdnmllodefbekaaDoor.Sha (FRow FR_alloc FR_drew FR_drewN FR_below FR_lower FR_slice FR_typed FR_reads' R_overF FR_append step_conv)
open Go.RowKit Go.Proofs.YtdnmllodefbekaaDoorW.PrintWords Go.Proofs.YtdnmllodefbekaaDoorW.PrintLast Go.Proofs.YtdnmllodefbekaaDoorW.PrintMore
attribute [local go_sem] max2_int min2_int max_two min_two max_three min_three max_four min_four   -- for this text's walks alone
set_option linter.unusedVariables false
set_option linter.unusedSimpArgs false

/-! ### hopperref24_Sum: function 14 -/
mutual
def hopperref24_Sum.l0 : Nat → ByteArray → List Int → List Int → List Int → Int → Option (ByteArray)
  | 0, _, _, _, _, _ => none
  | k + 1, x0, x3, x4, x5, x6 => if x6 < 64 then (if x6 < 8 then (if 0 ≤ x6 then (if x6 < (x3.length : Int) then ((hopperref24_square.f k (rd x3 x6)).bind fun t180 => (if x4.length < 35184372088832 then ((hopperref24_cube.f k (rd x3 x6)).bind fun t185 => (if x5.length < 35184372088832 then (hopperref24_Sum.l0 k x0 x3 (x4 ++ [t180]) (x5 ++ [t185]) (wrap64 (x6 + 1))) else (none))) else (none))) else (none)) else (none)) else (if 0 ≤ x6 then (if x6 < (x3.length : Int) then ((hopperref24_cube.f k (rd x3 x6)).bind fun t190 => (if x5.length < 35184372088832 then (hopperref24_Sum.l0 k x0 x3 x4 (x5 ++ [t190]) (wrap64 (x6 + 1))) else (none))) else (none)) else (none))) else ((some (bytesOf x0 : List Int)).bind fun y194 => (if y194.length < 140737488355328 then (hopperref24_Sum.l1 k x0 x4 x5 (y194 ++ [128])) else (none)))
def hopperref24_Sum.l1 : Nat → ByteArray → List Int → List Int → List Int → Option (ByteArray)
  | 0, _, _, _, _ => none
  | k + 1, x0, x4, x5, x7 => if ((x7.length : Int) % 64) = 56 then (hopperref24_Sum.l2 k x4 x5 x7 (IntKind.u64.wrap ((IntKind.u64.wrap ((x0.size : Int))) * 8)) 7) else (if x7.length < 140737488355328 then (hopperref24_Sum.l1 k x0 x4 x5 (x7 ++ [0])) else (none))
def hopperref24_Sum.l2 : Nat → List Int → List Int → List Int → Int → Int → Option (ByteArray)
  | 0, _, _, _, _, _ => none
  | k + 1, x4, x5, x7, x8, x9 => if x9 ≥ 0 then (if 0 ≤ (IntKind.u64.wrap (wrap64 (8 * x9))) then (if x7.length < 140737488355328 then (hopperref24_Sum.l2 k x4 x5 (x7 ++ [(shr .u64 x8 (IntKind.u64.wrap (wrap64 (8 * x9)))) % 256]) x8 (wrap64 (x9 - 1))) else (none)) else (none)) else (hopperref24_Sum.l3 k x4 x5 x7 0)
def hopperref24_Sum.l3 : Nat → List Int → List Int → List Int → Int → Option (ByteArray)
  | 0, _, _, _, _ => none
  | k + 1, x4, x5, x7, x10 => if x10 < (x7.length : Int) then (if 0 ≤ x10 then (if x10 ≤ (wrap64 (x10 + 64)) then (if (wrap64 (x10 + 64)) ≤ (x7.length : Int) then ((hopperref24_block.f k x4 x5 ((x7.take ((wrap64 (x10 + 64)) : Int).toNat).drop (x10 : Int).toNat)).bind fun t210 => (hopperref24_Sum.l3 k t210 x5 x7 (wrap64 (x10 + 64)))) else (none)) else (none)) else (none)) else (hopperref24_Sum.l4 k x4 ([] : List Int) 0)
def hopperref24_Sum.l4 : Nat → List Int → List Int → Int → Option (ByteArray)
  | 0, _, _, _ => none
  | k + 1, x4, x11, x12 => if x12 < 8 then (if 0 ≤ x12 then (if x12 < (x4.length : Int) then ((some (([((rd x4 x12) / 16777216) % 256, ((rd x4 x12) / 65536) % 256, ((rd x4 x12) / 256) % 256, (rd x4 x12) % 256] : List Int) : List Int)).bind fun y217 => (if x11.length + y217.length < 140737488355328 then (hopperref24_Sum.l4 k x4 (x11 ++ y217) (wrap64 (x12 + 1))) else (none))) else (none)) else (none)) else (some (strOfNums x11))
end
def hopperref24_Sum.f (k : Nat) (a0 : ByteArray) : Option (ByteArray) := (hopperref24_primes.f k 64).bind fun t176 => (hopperref24_Sum.l0 k a0 t176 ([] : List Int) ([] : List Int) 0)
theorem hopperref24_Sum.mono_l : ∀ k, (∀ y0 y1 y2 y3 y4, LeO (hopperref24_Sum.l0 k y0 y1 y2 y3 y4) (hopperref24_Sum.l0 (k + 1) y0 y1 y2 y3 y4)) ∧ (∀ y0 y1 y2 y3, LeO (hopperref24_Sum.l1 k y0 y1 y2 y3) (hopperref24_Sum.l1 (k + 1) y0 y1 y2 y3)) ∧ (∀ y0 y1 y2 y3 y4, LeO (hopperref24_Sum.l2 k y0 y1 y2 y3 y4) (hopperref24_Sum.l2 (k + 1) y0 y1 y2 y3 y4)) ∧ (∀ y0 y1 y2 y3, LeO (hopperref24_Sum.l3 k y0 y1 y2 y3) (hopperref24_Sum.l3 (k + 1) y0 y1 y2 y3)) ∧ (∀ y0 y1 y2, LeO (hopperref24_Sum.l4 k y0 y1 y2) (hopperref24_Sum.l4 (k + 1) y0 y1 y2))
  | 0 => ⟨fun _ _ _ _ _ r h => by simp [hopperref24_Sum.l0] at h, fun _ _ _ _ r h => by simp [hopperref24_Sum.l1] at h, fun _ _ _ _ _ r h => by simp [hopperref24_Sum.l2] at h, fun _ _ _ _ r h => by simp [hopperref24_Sum.l3] at h, fun _ _ _ r h => by simp [hopperref24_Sum.l4] at h⟩
  | k + 1 => by
    obtain ⟨ih0, ih1, ih2, ih3, ih4⟩ := hopperref24_Sum.mono_l k
    refine ⟨?_, ?_, ?_, ?_, ?_⟩
    · intro y0 y1 y2 y3 y4
      unfold hopperref24_Sum.l0
      repeat' first
      | (with_reducible exact ih0 _ _ _ _ _)
      | (with_reducible exact ih1 _ _ _ _)
      | (with_reducible exact ih2 _ _ _ _ _)
      | (with_reducible exact ih3 _ _ _ _)
      | (with_reducible exact ih4 _ _ _)
      | (with_reducible exact hopperref24_block.mono _ _ _ _)
      | (with_reducible exact hopperref24_cube.mono _ _)
      | (with_reducible exact hopperref24_primes.mono _ _)
      | (with_reducible exact hopperref24_square.mono _ _)
      | (with_reducible exact LeO.refl _)
      | (with_reducible exact LeO.none _)
      | (with_reducible refine LeO.ite ?_ ?_)
      | (with_reducible refine LeO.bind ?_ (fun _ => ?_))
      | exact ih0 _ _ _ _ _
      | exact ih1 _ _ _ _
      | exact ih2 _ _ _ _ _
      | exact ih3 _ _ _ _
      | exact ih4 _ _ _
      | exact hopperref24_block.mono _ _ _ _
      | exact hopperref24_cube.mono _ _
      | exact hopperref24_primes.mono _ _
      | exact hopperref24_square.mono _ _
      | exact LeO.none _
      | refine LeO.ite ?_ ?_
      | refine LeO.bind ?_ (fun _ => ?_)
    · intro y0 y1 y2 y3
      unfold hopperref24_Sum.l1
      repeat' first
      | (with_reducible exact ih0 _ _ _ _ _)
      | (with_reducible exact ih1 _ _ _ _)
      | (with_reducible exact ih2 _ _ _ _ _)
      | (with_reducible exact ih3 _ _ _ _)
      | (with_reducible exact ih4 _ _ _)
      | (with_reducible exact hopperref24_block.mono _ _ _ _)
      | (with_reducible exact hopperref24_cube.mono _ _)
      | (with_reducible exact hopperref24_primes.mono _ _)
      | (with_reducible exact hopperref24_square.mono _ _)
      | (with_reducible exact LeO.refl _)
      | (with_reducible exact LeO.none _)
      | (with_reducible refine LeO.ite ?_ ?_)
      | (with_reducible refine LeO.bind ?_ (fun _ => ?_))
      | exact ih0 _ _ _ _ _
      | exact ih1 _ _ _ _
      | exact ih2 _ _ _ _ _
      | exact ih3 _ _ _ _
      | exact ih4 _ _ _
      | exact hopperref24_block.mono _ _ _ _
      | exact hopperref24_cube.mono _ _
      | exact hopperref24_primes.mono _ _
      | exact hopperref24_square.mono _ _
      | exact LeO.none _
      | refine LeO.ite ?_ ?_
      | refine LeO.bind ?_ (fun _ => ?_)
    · intro y0 y1 y2 y3 y4
      unfold hopperref24_Sum.l2
      repeat' first
      | (with_reducible exact ih0 _ _ _ _ _)
      | (with_reducible exact ih1 _ _ _ _)
      | (with_reducible exact ih2 _ _ _ _ _)
      | (with_reducible exact ih3 _ _ _ _)
      | (with_reducible exact ih4 _ _ _)
      | (with_reducible exact hopperref24_block.mono _ _ _ _)
      | (with_reducible exact hopperref24_cube.mono _ _)
      | (with_reducible exact hopperref24_primes.mono _ _)
      | (with_reducible exact hopperref24_square.mono _ _)
      | (with_reducible exact LeO.refl _)
      | (with_reducible exact LeO.none _)
      | (with_reducible refine LeO.ite ?_ ?_)
      | (with_reducible refine LeO.bind ?_ (fun _ => ?_))
      | exact ih0 _ _ _ _ _
      | exact ih1 _ _ _ _
      | exact ih2 _ _ _ _ _
      | exact ih3 _ _ _ _
      | exact ih4 _ _ _
      | exact hopperref24_block.mono _ _ _ _
      | exact hopperref24_cube.mono _ _
      | exact hopperref24_primes.mono _ _
      | exact hopperref24_square.mono _ _
      | exact LeO.none _
      | refine LeO.ite ?_ ?_
      | refine LeO.bind ?_ (fun _ => ?_)
    · intro y0 y1 y2 y3
      unfold hopperref24_Sum.l3
      repeat' first
      | (with_reducible exact ih0 _ _ _ _ _)
      | (with_reducible exact ih1 _ _ _ _)
      | (with_reducible exact ih2 _ _ _ _ _)
      | (with_reducible exact ih3 _ _ _ _)
      | (with_reducible exact ih4 _ _ _)
      | (with_reducible exact hopperref24_block.mono _ _ _ _)
      | (with_reducible exact hopperref24_cube.mono _ _)
      | (with_reducible exact hopperref24_primes.mono _ _)
      | (with_reducible exact hopperref24_square.mono _ _)
      | (with_reducible exact LeO.refl _)
      | (with_reducible exact LeO.none _)
      | (with_reducible refine LeO.ite ?_ ?_)
      | (with_reducible refine LeO.bind ?_ (fun _ => ?_))
      | exact ih0 _ _ _ _ _
      | exact ih1 _ _ _ _
      | exact ih2 _ _ _ _ _
      | exact ih3 _ _ _ _
      | exact ih4 _ _ _
      | exact hopperref24_block.mono _ _ _ _
      | exact hopperref24_cube.mono _ _
      | exact hopperref24_primes.mono _ _
      | exact hopperref24_square.mono _ _
      | exact LeO.none _
      | refine LeO.ite ?_ ?_
      | refine LeO.bind ?_ (fun _ => ?_)
    · intro y0 y1 y2
      unfold hopperref24_Sum.l4
      repeat' first
      | (with_reducible exact ih0 _ _ _ _ _)
      | (with_reducible exact ih1 _ _ _ _)
      | (with_reducible exact ih2 _ _ _ _ _)
      | (with_reducible exact ih3 _ _ _ _)
      | (with_reducible exact ih4 _ _ _)
      | (with_reducible exact hopperref24_block.mono _ _ _ _)
      | (with_reducible exact hopperref24_cube.mono _ _)
      | (with_reducible exact hopperref24_primes.mono _ _)
      | (with_reducible exact hopperref24_square.mono _ _)
      | (with_reducible exact LeO.refl _)
      | (with_reducible exact LeO.none _)
      | (with_reducible refine LeO.ite ?_ ?_)
      | (with_reducible refine LeO.bind ?_ (fun _ => ?_))
      | exact ih0 _ _ _ _ _
      | exact ih1 _ _ _ _
      | exact ih2 _ _ _ _ _
      | exact ih3 _ _ _ _
      | exact ih4 _ _ _
      | exact hopperref24_block.mono _ _ _ _
      | exact hopperref24_cube.mono _ _
      | exact hopperref24_primes.mono _ _
      | exact hopperref24_square.mono _ _
      | exact LeO.none _
      | refine LeO.ite ?_ ?_
      | refine LeO.bind ?_ (fun _ => ?_)
theorem hopperref24_Sum.mono : ∀ a0 k, LeO (hopperref24_Sum.f k a0) (hopperref24_Sum.f (k + 1) a0) := by
  intro a0 k
  obtain ⟨ih0, ih1, ih2, ih3, ih4⟩ := hopperref24_Sum.mono_l k
  unfold hopperref24_Sum.f
  repeat' first
      | (with_reducible exact ih0 _ _ _ _ _)
      | (with_reducible exact ih1 _ _ _ _)
      | (with_reducible exact ih2 _ _ _ _ _)
      | (with_reducible exact ih3 _ _ _ _)
      | (with_reducible exact ih4 _ _ _)
      | (with_reducible exact hopperref24_block.mono _ _ _ _)
      | (with_reducible exact hopperref24_cube.mono _ _)
      | (with_reducible exact hopperref24_primes.mono _ _)
      | (with_reducible exact hopperref24_square.mono _ _)
      | (with_reducible exact LeO.refl _)
      | (with_reducible exact LeO.none _)
      | (with_reducible refine LeO.ite ?_ ?_)
      | (with_reducible refine LeO.bind ?_ (fun _ => ?_))
      | exact ih0 _ _ _ _ _
      | exact ih1 _ _ _ _
      | exact ih2 _ _ _ _ _
      | exact ih3 _ _ _ _
      | exact ih4 _ _ _
      | exact hopperref24_block.mono _ _ _ _
      | exact hopperref24_cube.mono _ _
      | exact hopperref24_primes.mono _ _
      | exact hopperref24_square.mono _ _
      | exact LeO.none _
      | refine LeO.ite ?_ ?_
      | refine LeO.bind ?_ (fun _ => ?_)
def hopperref24_Sum.T25 : Bool × List (List Nat × List Nat) := (true, [([], []), ([], []), ([], []), ([1, 2], [1, 2]), ([3], [3]), ([4], [4]), ([5], [5]), ([], []), ([], []), ([7, 8], [7, 8]), ([9], [9]), ([10], [10]), ([11], [11]), ([], []), ([], []), ([13, 14], [13, 14]), ([15], [15]), ([16], [16]), ([17], [17]), ([], []), ([], []), ([19, 20], [19, 20]), ([21], [21]), ([22], [22]), ([6, 12, 18, 23], [6, 12, 18, 23]), ([0, 24], [0, 24]), ([25, 25, 0, 1, 2, 3, 4, 5, 6, 7, 8, 9, 10, 11, 12, 13, 14, 15, 16, 17, 18, 19, 20, 21, 22, 23, 24, 25], [0, 25])])
def hopperref24_Sum.B25 : List Nat := [0, 0, 0, 6, 14, 30, 62, 0, 0, 384, 896, 1920, 3968, 0, 0, 24576, 57344, 122880, 253952, 0, 0, 1572864, 3670016, 7864320, 16777214, 33554431, 67108863]
theorem hopperref24_Sum.tab25 : rtab .any (opsOf Tryd.f14 25) = hopperref24_Sum.T25 := by kernel_rfl
theorem hopperref24_Sum.bits25 : waitsOk hopperref24_Sum.T25.2 hopperref24_Sum.B25 = true := by kernel_rfl
set_option maxHeartbeats 8000000 in
set_option maxRecDepth 100000 in
theorem hopperref24_Sum.calls (k : Nat) (a0 : ByteArray) (r : ByteArray) (w : World) (h : hopperref24_Sum.f k a0 = some r) :
    Calls Tryd.prog 14 #[.string a0] w fun e w' => e = .returned (.string r) ∧ Below w.heap.size w w' := by
  have HB := Aside0.mk (Below.refl w.heap.size w)
  have H : ((hopperref24_primes.f k 64).bind fun t176 => (hopperref24_Sum.l0 k a0 t176 ([] : List Int) ([] : List Int) 0)) = some r := h
  clear h
  replace H := Option.bind_eq_some_iff.mp H
  obtain ⟨t176, A20, H⟩ := H
  replace H : (hopperref24_Sum.l0 k a0 t176 ([] : List Int) ([] : List Int) 0) = some r := H
  have A2 := Aside0.mk A20
  clear A20
  have H' := Aside0.mk H
  clear H
  go_enter Tryd.func14, Tryd.ntmps14
  go_wp2_with (first | ((with_reducible refine gate_callee (f := 40) rfl ?_); refine goesL_ (some 13) rfl rfl Tryd.func40 (by kernel_rfl) rfl #[.int .i64 64] rfl (by (try simp only [List.map_toArray, List.map_cons, List.map_nil]); first | done | rfl | (simp only [List.length_drop, List.length_take]; rfl)) ?_; (with_reducible refine (hopperref24_primes.calls k 64 t176 _ A2.out).mono ?_); rintro e w3 ⟨v177, rfl, ho0, hb⟩; refine ⟨_, rfl, ?_⟩; have n0_ := Aside0.mk (Kd.R_lower ho0 (below_size (by repeat (first | (with_reducible first | exact HB.out | apply below_alloc | apply pw_below_drewN | apply below_drew1) | exact HB.out)))); have n1_ := Aside0.mk (below_step (by repeat (first | (with_reducible first | exact HB.out | apply below_alloc | apply pw_below_drewN | apply below_drew1) | exact HB.out)) hb); clear HB; have HO178 := n0_; have HB := n1_; clear n0_ n1_; (try clear hb); (try clear hb2); (try clear hk); (try clear hi); (try clear ho0)))
  go_loopg [4, 5, 6] k (fun kq v4 v5 v6 w' => ∃ (x4_1 : List Int) (x5_1 : List Int) (x6_1 : Int), v6 = .int .i64 x6_1 ∧ Aside0 (hopperref24_Sum.l0 kq a0 t176 x4_1 x5_1 x6_1 = some r) ∧ Aside0 (kq ≤ k) ∧ Aside0 (Kd.R (Kd.int .u64) 33 w' w.heap.size (fun _ => True) v177 t176) ∧ Aside0 (Kd.R (Kd.int .u32) 66 w' w.heap.size (fun k_ => some k_ ≠ (v5 : Value).ownBlock) v4 x4_1) ∧ Aside0 (Kd.R (Kd.int .u32) 66 w' w.heap.size (fun k_ => some k_ ≠ (v4 : Value).ownBlock) v5 x5_1) ∧ Aside0 (Below w.heap.size w w'))
  case atStart => exact ⟨(([] : List Int)), (([] : List Int)), (0), (by first | rfl | (simp; done) | (simp [*]; done) | (simp [bne_nil_]; done)), H', ⟨Nat.le_refl _⟩, ⟨by (with_reducible repeat (first | apply Kd.R_alloc | apply Kd.R_drewN | apply Kd.R_drew | apply FR_alloc | apply FR_drewN | apply FR_drew)); exact HO178.out⟩, ⟨by first | exact Kd.R_nil _ _ _ _ _ | exact Kd.N_nil _ _ _ _ _ | exact Kd.V_nil _ _ _ _ _ | exact Kd.Q_nil _ _ _ _ _ | exact Kd.S_nil _ _ _ _ _⟩, ⟨by first | exact Kd.R_nil _ _ _ _ _ | exact Kd.N_nil _ _ _ _ _ | exact Kd.V_nil _ _ _ _ _ | exact Kd.Q_nil _ _ _ _ _ | exact Kd.S_nil _ _ _ _ _⟩, ⟨by repeat (first | (with_reducible first | exact HB.out | apply below_alloc | apply pw_below_drewN | apply below_drew1) | exact HB.out)⟩⟩
  case round =>
    clear H'
    try clear c1
    try clear p2
    obtain ⟨x4_1, x5_1, x6_1, rfl, HA, HK1, HO_3, HO_4, HO_5, HB⟩ := hrel
    cases gk with
    | zero => exact absurd HA.out (by simp [hopperref24_Sum.l0])
    | succ k1 =>
      have H := HA.out
      clear HA
      simp only [hopperref24_Sum.l0] at H
      by_cases c4 : x6_1 < 64
      · rw [if_pos c4] at H
        have c4b0 : decide (x6_1 < 64) = true := decide_eq_true c4
        clear c4
        by_cases c5 : x6_1 < 8
        · rw [if_pos c5] at H
          have c5b0 : decide (x6_1 < 8) = true := decide_eq_true c5
          clear c5
          by_cases c6 : 0 ≤ x6_1
          · rw [if_pos c6] at H
            have c6b0 : decide (0 ≤ x6_1) = true := decide_eq_true c6
            clear c6
            by_cases c7 : x6_1 < (t176.length : Int)
            · rw [if_pos c7] at H
              have c7b0 : decide (x6_1 < (t176.length : Int)) = true := decide_eq_true c7
              clear c7
              replace H := Option.bind_eq_some_iff.mp H
              obtain ⟨t180, A80, H⟩ := H
              replace H : (if x4_1.length < 35184372088832 then ((hopperref24_cube.f k1 (rd t176 x6_1)).bind fun t185 => (if x5_1.length < 35184372088832 then (hopperref24_Sum.l0 k1 a0 t176 (x4_1 ++ [t180]) (x5_1 ++ [t185]) (wrap64 (x6_1 + 1))) else (none))) else (none)) = some r := H
              have A8 := Aside0.mk A80
              clear A80
              by_cases c9 : x4_1.length < 35184372088832
              · rw [if_pos c9] at H
                have LMc9 := Aside0.mk c9
                clear c9
                obtain ⟨y181, hy181⟩ : ∃ y_ : List Int, y_ = (x4_1 ++ [t180]) := ⟨_, rfl⟩
                replace H : ((hopperref24_cube.f k1 (rd t176 x6_1)).bind fun t185 => (if x5_1.length < 35184372088832 then (hopperref24_Sum.l0 k1 a0 t176 y181 (x5_1 ++ [t185]) (wrap64 (x6_1 + 1))) else (none))) = some r := by first | (rw [hy181]; with_reducible exact H) | (have H2_ := (Option.bind_some _ _).symm.trans H; rw [hy181]; with_reducible exact H2_) | (have H2_ := (Option.bind_some _ _).symm.trans H; with_reducible exact H2_) | with_reducible exact H | (rw [hy181]; exact H) | exact H
                have Ny181 := Aside0.mk hy181
                clear hy181
                replace H := Option.bind_eq_some_iff.mp H
                obtain ⟨t185, A100, H⟩ := H
                replace H : (if x5_1.length < 35184372088832 then (hopperref24_Sum.l0 k1 a0 t176 y181 (x5_1 ++ [t185]) (wrap64 (x6_1 + 1))) else (none)) = some r := H
                have A10 := Aside0.mk A100
                clear A100
                by_cases c11 : x5_1.length < 35184372088832
                · rw [if_pos c11] at H
                  have LMc11 := Aside0.mk c11
                  clear c11
                  obtain ⟨y186, hy186⟩ : ∃ y_ : List Int, y_ = (x5_1 ++ [t185]) := ⟨_, rfl⟩
                  replace H : (hopperref24_Sum.l0 k1 a0 t176 y181 y186 (wrap64 (x6_1 + 1))) = some r := by first | (rw [hy186]; with_reducible exact H) | (have H2_ := (Option.bind_some _ _).symm.trans H; rw [hy186]; with_reducible exact H2_) | (have H2_ := (Option.bind_some _ _).symm.trans H; with_reducible exact H2_) | with_reducible exact H | (rw [hy186]; exact H) | exact H
                  have Ny186 := Aside0.mk hy186
                  clear hy186
                  have H' := Aside0.mk H
                  clear H
                  obtain ⟨Ao12, co12, eo12⟩ := Kd.R_slice HO_3.out
                  subst eo12
                  have p179 : 0 ≤ (x6_1 : Int) := of_decide_eq_true (by first | (with_reducible assumption) | assumption)
                  have q179 : x6_1 < (t176.length : Int) := of_decide_eq_true (by first | (with_reducible assumption) | assumption)
                  obtain ⟨ad179, e179, hx179_0⟩ := Kd.at_int (Kd.R_reads' HO_3.out).2.2 x6_1 p179 q179
                  cases e179
                  replace p179 := eq_true p179
                  replace q179 := eq_true q179
                  go_wp2_with (first | ((with_reducible refine gate_callee (f := 41) rfl ?_); refine goesL_ (some 25) rfl rfl Tryd.func41 (by kernel_rfl) rfl #[.int .u64 (rd t176 x6_1)] rfl (by (try simp only [List.map_toArray, List.map_cons, List.map_nil]); first | done | rfl | (simp only [List.length_drop, List.length_take]; rfl)) ?_; (with_reducible refine (hopperref24_square.calls k1 (rd t176 x6_1) t180 _ A8.out).mono ?_); rintro e w' ⟨rfl, ⟨nd, rfl⟩⟩; refine ⟨_, rfl, ?_⟩) | ((with_reducible refine gate_builtin (b := .append) (xs := #[.tmp 20, .tmp 26]) rfl ?_); at_builtin; refine Kd.R_append (Kd.int .u32) (w0 := w) w.heap.size rfl (.tmp 20) (.tmp 26) 65 66 (.int .u32 0) 4 rfl Tryd.underlying65 info66 rfl (by decide) (by omega) u4 x4_1 t180 [.int .u32 t180] (fun k_ => some k_ ≠ (u5 : Value).ownBlock) (fun _ => False) rfl rfl ?aP (fun _ hk => hk.elim) ?aF ?aO ?aB ?aS ?aL ?_; (case aP => exact rfl); (case aB => exact (by repeat (first | (with_reducible first | exact HB.out | apply below_alloc | apply pw_below_drewN | apply below_drew1) | exact HB.out))); (case aF => exact (fun k_ hk => Kd.fresh' (Kd.R_lt (by (with_reducible repeat (first | apply Kd.R_alloc | apply Kd.R_drewN | apply Kd.R_drew | apply FR_alloc | apply FR_drewN | apply FR_drew)); exact HO_5.out)) k_ hk)); (case aO => exact (by (with_reducible repeat (first | apply Kd.R_alloc | apply Kd.R_drewN | apply Kd.R_drew | apply FR_alloc | apply FR_drewN | apply FR_drew)); exact HO_4.out)); (case aS => exact (below_size (by repeat (first | (with_reducible first | exact HB.out | apply below_alloc | apply pw_below_drewN | apply below_drew1) | exact HB.out)))); (case aL => have := LMc9.out; omega); intro v182 w13 ho hb hg hat; rw [← Ny181.out] at ho; have n0_ := Aside0.mk (Kd.R_over' (by (with_reducible repeat (first | apply Kd.R_alloc | apply Kd.R_drewN | apply Kd.R_drew | apply FR_alloc | apply FR_drewN | apply FR_drew)); exact HO_3.out) (Kd.R_typed (by (with_reducible repeat (first | apply Kd.R_alloc | apply Kd.R_drewN | apply Kd.R_drew | apply FR_alloc | apply FR_drewN | apply FR_drew)); exact HO_4.out)) (by decide) hg); have n1_ := Aside0.mk (Kd.R_after (ok := (fun _ => True)) (by (with_reducible repeat (first | apply Kd.R_alloc | apply Kd.R_drewN | apply Kd.R_drew | apply FR_alloc | apply FR_drewN | apply FR_drew)); exact Kd.R_mono HO_5.out (fun _ hk => ⟨trivial, hk⟩)) hg hat); have n2_ := Aside0.mk (hb); have n3_ := Aside0.mk (ho); clear HO_3; clear HO_5; clear HB; clear HO_4; have HO_3 := n0_; have HO_5 := n1_; have HB := n2_; have HO183 := n3_; clear n0_ n1_ n2_ n3_; clear ho hb hg hat; have p184 : 0 ≤ (x6_1 : Int) := of_decide_eq_true (by first | (with_reducible assumption) | assumption); have q184 : x6_1 < (t176.length : Int) := of_decide_eq_true (by first | (with_reducible assumption) | assumption); obtain ⟨ad184, e184, hx184_0⟩ := Kd.at_int (Kd.R_reads' HO_3.out).2.2 x6_1 p184 q184; obtain rfl : ad179 = ad184 := (by injection e184); replace p184 := eq_true p184; replace q184 := eq_true q184) | ((with_reducible refine gate_callee (f := 42) rfl ?_); refine goesL_ (some 33) rfl rfl Tryd.func42 (by kernel_rfl) rfl #[.int .u64 (rd t176 x6_1)] rfl (by (try simp only [List.map_toArray, List.map_cons, List.map_nil]); first | done | rfl | (simp only [List.length_drop, List.length_take]; rfl)) ?_; (with_reducible refine (hopperref24_cube.calls k1 (rd t176 x6_1) t185 _ A10.out).mono ?_); rintro e w' ⟨rfl, ⟨nd, rfl⟩⟩; refine ⟨_, rfl, ?_⟩) | ((with_reducible refine gate_builtin (b := .append) (xs := #[.tmp 28, .tmp 34]) rfl ?_); at_builtin; refine Kd.R_append (Kd.int .u32) (w0 := w) w.heap.size rfl (.tmp 28) (.tmp 34) 65 66 (.int .u32 0) 4 rfl Tryd.underlying65 info66 rfl (by decide) (by omega) u5 x5_1 t185 [.int .u32 t185] (fun k_ => some k_ ≠ (v182 : Value).ownBlock) (fun _ => False) rfl rfl ?aP (fun _ hk => hk.elim) ?aF ?aO ?aB ?aS ?aL ?_; (case aP => exact rfl); (case aB => exact (by repeat (first | (with_reducible first | exact HB.out | apply below_alloc | apply pw_below_drewN | apply below_drew1) | exact HB.out))); (case aF => exact (fun k_ hk => Kd.fresh' (Kd.R_lt (by (with_reducible repeat (first | apply Kd.R_alloc | apply Kd.R_drewN | apply Kd.R_drew | apply FR_alloc | apply FR_drewN | apply FR_drew)); exact HO183.out)) k_ hk)); (case aO => exact (by (with_reducible repeat (first | apply Kd.R_alloc | apply Kd.R_drewN | apply Kd.R_drew | apply FR_alloc | apply FR_drewN | apply FR_drew)); exact Kd.R_mono HO_5.out (fun _ hk => hk.2))); (case aS => exact (below_size (by repeat (first | (with_reducible first | exact HB.out | apply below_alloc | apply pw_below_drewN | apply below_drew1) | exact HB.out)))); (case aL => have := LMc11.out; omega); intro v187 w14 ho hb hg hat; rw [← Ny186.out] at ho; have n0_ := Aside0.mk (Kd.R_over' (by (with_reducible repeat (first | apply Kd.R_alloc | apply Kd.R_drewN | apply Kd.R_drew | apply FR_alloc | apply FR_drewN | apply FR_drew)); exact HO_3.out) (Kd.R_typed (by (with_reducible repeat (first | apply Kd.R_alloc | apply Kd.R_drewN | apply Kd.R_drew | apply FR_alloc | apply FR_drewN | apply FR_drew)); exact HO_5.out)) (by decide) hg); have n1_ := Aside0.mk (Kd.R_after (ok := (fun _ => True)) (by (with_reducible repeat (first | apply Kd.R_alloc | apply Kd.R_drewN | apply Kd.R_drew | apply FR_alloc | apply FR_drewN | apply FR_drew)); exact Kd.R_mono HO183.out (fun _ hk => ⟨trivial, hk⟩)) hg hat); have n2_ := Aside0.mk (hb); have n3_ := Aside0.mk (ho); clear HO_3; clear HO183; clear HB; clear HO_5; have HO_3 := n0_; have HO183 := n1_; have HB := n2_; have HO188 := n3_; clear n0_ n1_ n2_ n3_; clear ho hb hg hat))
                  go_roundg k1
                  case measure => have := HK1.out; omega
                  case rel => exact ⟨(y181), (y186), (wrap64 (x6_1 + 1)), (by first | rfl | (simp; done) | (simp [*]; done) | (simp [bne_nil_]; done)), H', ⟨by have := HK1.out; omega⟩, ⟨by (with_reducible repeat (first | apply Kd.R_alloc | apply Kd.R_drewN | apply Kd.R_drew | apply FR_alloc | apply FR_drewN | apply FR_drew)); exact HO_3.out⟩, ⟨by (with_reducible repeat (first | apply Kd.R_alloc | apply Kd.R_drewN | apply Kd.R_drew | apply FR_alloc | apply FR_drewN | apply FR_drew)); exact Kd.R_mono HO183.out (fun _ hk => hk.2)⟩, ⟨by (with_reducible repeat (first | apply Kd.R_alloc | apply Kd.R_drewN | apply Kd.R_drew | apply FR_alloc | apply FR_drewN | apply FR_drew)); exact HO188.out⟩, ⟨by repeat (first | (with_reducible first | exact HB.out | apply below_alloc | apply pw_below_drewN | apply below_drew1) | exact HB.out)⟩⟩
                · rw [if_neg c11] at H
                  exact absurd H (by simp)
              · rw [if_neg c9] at H
                exact absurd H (by simp)
            · rw [if_neg c7] at H
              exact absurd H (by simp)
          · rw [if_neg c6] at H
            exact absurd H (by simp)
        · rw [if_neg c5] at H
          have c5b0 : decide (x6_1 < 8) = false := decide_eq_false c5
          clear c5
          by_cases c15 : 0 ≤ x6_1
          · rw [if_pos c15] at H
            have c15b0 : decide (0 ≤ x6_1) = true := decide_eq_true c15
            clear c15
            by_cases c16 : x6_1 < (t176.length : Int)
            · rw [if_pos c16] at H
              have c16b0 : decide (x6_1 < (t176.length : Int)) = true := decide_eq_true c16
              clear c16
              replace H := Option.bind_eq_some_iff.mp H
              obtain ⟨t190, A170, H⟩ := H
              replace H : (if x5_1.length < 35184372088832 then (hopperref24_Sum.l0 k1 a0 t176 x4_1 (x5_1 ++ [t190]) (wrap64 (x6_1 + 1))) else (none)) = some r := H
              have A17 := Aside0.mk A170
              clear A170
              by_cases c18 : x5_1.length < 35184372088832
              · rw [if_pos c18] at H
                have LMc18 := Aside0.mk c18
                clear c18
                obtain ⟨y191, hy191⟩ : ∃ y_ : List Int, y_ = (x5_1 ++ [t190]) := ⟨_, rfl⟩
                replace H : (hopperref24_Sum.l0 k1 a0 t176 x4_1 y191 (wrap64 (x6_1 + 1))) = some r := by first | (rw [hy191]; with_reducible exact H) | (have H2_ := (Option.bind_some _ _).symm.trans H; rw [hy191]; with_reducible exact H2_) | (have H2_ := (Option.bind_some _ _).symm.trans H; with_reducible exact H2_) | with_reducible exact H | (rw [hy191]; exact H) | exact H
                have Ny191 := Aside0.mk hy191
                clear hy191
                have H' := Aside0.mk H
                clear H
                obtain ⟨Ao19, co19, eo19⟩ := Kd.R_slice HO_3.out
                subst eo19
                have p189 : 0 ≤ (x6_1 : Int) := of_decide_eq_true (by first | (with_reducible assumption) | assumption)
                have q189 : x6_1 < (t176.length : Int) := of_decide_eq_true (by first | (with_reducible assumption) | assumption)
                obtain ⟨ad189, e189, hx189_0⟩ := Kd.at_int (Kd.R_reads' HO_3.out).2.2 x6_1 p189 q189
                cases e189
                replace p189 := eq_true p189
                replace q189 := eq_true q189
                go_wp2_with (first | ((with_reducible refine gate_callee (f := 42) rfl ?_); refine goesL_ (some 33) rfl rfl Tryd.func42 (by kernel_rfl) rfl #[.int .u64 (rd t176 x6_1)] rfl (by (try simp only [List.map_toArray, List.map_cons, List.map_nil]); first | done | rfl | (simp only [List.length_drop, List.length_take]; rfl)) ?_; (with_reducible refine (hopperref24_cube.calls k1 (rd t176 x6_1) t190 _ A17.out).mono ?_); rintro e w' ⟨rfl, ⟨nd, rfl⟩⟩; refine ⟨_, rfl, ?_⟩) | ((with_reducible refine gate_builtin (b := .append) (xs := #[.tmp 28, .tmp 34]) rfl ?_); at_builtin; refine Kd.R_append (Kd.int .u32) (w0 := w) w.heap.size rfl (.tmp 28) (.tmp 34) 65 66 (.int .u32 0) 4 rfl Tryd.underlying65 info66 rfl (by decide) (by omega) u5 x5_1 t190 [.int .u32 t190] (fun k_ => some k_ ≠ (u4 : Value).ownBlock) (fun _ => False) rfl rfl ?aP (fun _ hk => hk.elim) ?aF ?aO ?aB ?aS ?aL ?_; (case aP => exact rfl); (case aB => exact (by repeat (first | (with_reducible first | exact HB.out | apply below_alloc | apply pw_below_drewN | apply below_drew1) | exact HB.out))); (case aF => exact (fun k_ hk => Kd.fresh' (Kd.R_lt (by (with_reducible repeat (first | apply Kd.R_alloc | apply Kd.R_drewN | apply Kd.R_drew | apply FR_alloc | apply FR_drewN | apply FR_drew)); exact HO_4.out)) k_ hk)); (case aO => exact (by (with_reducible repeat (first | apply Kd.R_alloc | apply Kd.R_drewN | apply Kd.R_drew | apply FR_alloc | apply FR_drewN | apply FR_drew)); exact HO_5.out)); (case aS => exact (below_size (by repeat (first | (with_reducible first | exact HB.out | apply below_alloc | apply pw_below_drewN | apply below_drew1) | exact HB.out)))); (case aL => have := LMc18.out; omega); intro v192 w20 ho hb hg hat; rw [← Ny191.out] at ho; have n0_ := Aside0.mk (Kd.R_over' (by (with_reducible repeat (first | apply Kd.R_alloc | apply Kd.R_drewN | apply Kd.R_drew | apply FR_alloc | apply FR_drewN | apply FR_drew)); exact HO_3.out) (Kd.R_typed (by (with_reducible repeat (first | apply Kd.R_alloc | apply Kd.R_drewN | apply Kd.R_drew | apply FR_alloc | apply FR_drewN | apply FR_drew)); exact HO_5.out)) (by decide) hg); have n1_ := Aside0.mk (Kd.R_after (ok := (fun _ => True)) (by (with_reducible repeat (first | apply Kd.R_alloc | apply Kd.R_drewN | apply Kd.R_drew | apply FR_alloc | apply FR_drewN | apply FR_drew)); exact Kd.R_mono HO_4.out (fun _ hk => ⟨trivial, hk⟩)) hg hat); have n2_ := Aside0.mk (hb); have n3_ := Aside0.mk (ho); clear HO_3; clear HO_4; clear HB; clear HO_5; have HO_3 := n0_; have HO_4 := n1_; have HB := n2_; have HO193 := n3_; clear n0_ n1_ n2_ n3_; clear ho hb hg hat))
                go_roundg k1
                case measure => have := HK1.out; omega
                case rel => exact ⟨(x4_1), (y191), (wrap64 (x6_1 + 1)), (by first | rfl | (simp; done) | (simp [*]; done) | (simp [bne_nil_]; done)), H', ⟨by have := HK1.out; omega⟩, ⟨by (with_reducible repeat (first | apply Kd.R_alloc | apply Kd.R_drewN | apply Kd.R_drew | apply FR_alloc | apply FR_drewN | apply FR_drew)); exact HO_3.out⟩, ⟨by (with_reducible repeat (first | apply Kd.R_alloc | apply Kd.R_drewN | apply Kd.R_drew | apply FR_alloc | apply FR_drewN | apply FR_drew)); exact Kd.R_mono HO_4.out (fun _ hk => hk.2)⟩, ⟨by (with_reducible repeat (first | apply Kd.R_alloc | apply Kd.R_drewN | apply Kd.R_drew | apply FR_alloc | apply FR_drewN | apply FR_drew)); exact HO193.out⟩, ⟨by repeat (first | (with_reducible first | exact HB.out | apply below_alloc | apply pw_below_drewN | apply below_drew1) | exact HB.out)⟩⟩
              · rw [if_neg c18] at H
                exact absurd H (by simp)
            · rw [if_neg c16] at H
              exact absurd H (by simp)
          · rw [if_neg c15] at H
            exact absurd H (by simp)
      · rw [if_neg c4] at H
        have c4b0 : decide (x6_1 < 64) = false := decide_eq_false c4
        clear c4
        obtain ⟨y194, hy194⟩ : ∃ y_ : List Int, y_ = (bytesOf a0) := ⟨_, rfl⟩
        replace H : (if y194.length < 140737488355328 then (hopperref24_Sum.l1 k1 a0 x4_1 x5_1 (y194 ++ [128])) else (none)) = some r := by first | (rw [hy194]; with_reducible exact H) | (have H2_ := (Option.bind_some _ _).symm.trans H; rw [hy194]; with_reducible exact H2_) | (have H2_ := (Option.bind_some _ _).symm.trans H; with_reducible exact H2_) | with_reducible exact H | (rw [hy194]; exact H) | exact H
        have Ny194 := Aside0.mk hy194
        clear hy194
        by_cases c21 : y194.length < 140737488355328
        · rw [if_pos c21] at H
          have LMc21 := Aside0.mk c21
          clear c21
          obtain ⟨y197, hy197⟩ : ∃ y_ : List Int, y_ = (y194 ++ [128]) := ⟨_, rfl⟩
          replace H : (hopperref24_Sum.l1 k1 a0 x4_1 x5_1 y197) = some r := by first | (rw [hy197]; with_reducible exact H) | (have H2_ := (Option.bind_some _ _).symm.trans H; rw [hy197]; with_reducible exact H2_) | (have H2_ := (Option.bind_some _ _).symm.trans H; with_reducible exact H2_) | with_reducible exact H | (rw [hy197]; exact H) | exact H
          have Ny197 := Aside0.mk hy197
          clear hy197
          have H' := Aside0.mk H
          clear H
          go_wp2_with (first | ((with_reducible refine gate_dst (N := 37) rfl ?_); refine step_conv rfl 9 32 _ rfl a0 rfl Tryd.underlying9 Tryd.underlying32 (by have h_ := LMc21.out; rw [Ny194.out, bytesOf_length] at h_; unfold maxLen; omega) ?_; intro w22 v195 hb ho23; rw [← Ny194.out] at ho23; have n0_ := Aside0.mk (Kd.R_below (by (with_reducible repeat (first | apply Kd.R_alloc | apply Kd.R_drewN | apply Kd.R_drew | apply FR_alloc | apply FR_drewN | apply FR_drew)); exact HO_3.out) hb); have n1_ := Aside0.mk (Kd.R_below (by (with_reducible repeat (first | apply Kd.R_alloc | apply Kd.R_drewN | apply Kd.R_drew | apply FR_alloc | apply FR_drewN | apply FR_drew)); exact HO_4.out) hb); have n2_ := Aside0.mk (Kd.R_below (by (with_reducible repeat (first | apply Kd.R_alloc | apply Kd.R_drewN | apply Kd.R_drew | apply FR_alloc | apply FR_drewN | apply FR_drew)); exact HO_5.out) hb); have n3_ := Aside0.mk (FR_lower ho23 (below_size (by repeat (first | (with_reducible first | exact HB.out | apply below_alloc | apply pw_below_drewN | apply below_drew1) | exact HB.out)))); have n4_ := Aside0.mk (below_step (by repeat (first | (with_reducible first | exact HB.out | apply below_alloc | apply pw_below_drewN | apply below_drew1) | exact HB.out)) hb); clear HO_3; clear HO_4; clear HO_5; clear HB; have HO_3 := n0_; have HO_4 := n1_; have HO_5 := n2_; have HO196 := n3_; have HB := n4_; clear n0_ n1_ n2_ n3_ n4_; clear hb ho23) | ((with_reducible refine gate_builtin (b := .append) (xs := #[.tmp 37, .tmp 38]) rfl ?_); at_builtin; refine FR_append (w0 := w) w.heap.size rfl (.tmp 37) (.tmp 38) 32 rfl Tryd.underlying32 v195 y194 128 rfl rfl ?aO ?aB ?aS ?aL ?_; (case aB => exact (by repeat (first | (with_reducible first | exact HB.out | apply below_alloc | apply pw_below_drewN | apply below_drew1) | exact HB.out))); (case aO => exact (by (with_reducible repeat (first | apply Kd.R_alloc | apply Kd.R_drewN | apply Kd.R_drew | apply FR_alloc | apply FR_drewN | apply FR_drew)); exact HO196.out)); (case aS => exact (below_size (by repeat (first | (with_reducible first | exact HB.out | apply below_alloc | apply pw_below_drewN | apply below_drew1) | exact HB.out)))); (case aL => have := LMc21.out; omega); intro v198 w24 ho hb hg hat; rw [← Ny197.out] at ho; have n0_ := Aside0.mk (R_overF (by (with_reducible repeat (first | apply Kd.R_alloc | apply Kd.R_drewN | apply Kd.R_drew | apply FR_alloc | apply FR_drewN | apply FR_drew)); exact HO_3.out) (by (with_reducible repeat (first | apply Kd.R_alloc | apply Kd.R_drewN | apply Kd.R_drew | apply FR_alloc | apply FR_drewN | apply FR_drew)); exact HO196.out) (by decide) hg); have n1_ := Aside0.mk (R_overF (by (with_reducible repeat (first | apply Kd.R_alloc | apply Kd.R_drewN | apply Kd.R_drew | apply FR_alloc | apply FR_drewN | apply FR_drew)); exact HO_4.out) (by (with_reducible repeat (first | apply Kd.R_alloc | apply Kd.R_drewN | apply Kd.R_drew | apply FR_alloc | apply FR_drewN | apply FR_drew)); exact HO196.out) (by decide) hg); have n2_ := Aside0.mk (R_overF (by (with_reducible repeat (first | apply Kd.R_alloc | apply Kd.R_drewN | apply Kd.R_drew | apply FR_alloc | apply FR_drewN | apply FR_drew)); exact HO_5.out) (by (with_reducible repeat (first | apply Kd.R_alloc | apply Kd.R_drewN | apply Kd.R_drew | apply FR_alloc | apply FR_drewN | apply FR_drew)); exact HO196.out) (by decide) hg); have n3_ := Aside0.mk (hb); have n4_ := Aside0.mk (ho); clear HO_3; clear HO_4; clear HO_5; clear HB; clear HO196; have HO_3 := n0_; have HO_4 := n1_; have HO_5 := n2_; have HB := n3_; have HO199 := n4_; clear n0_ n1_ n2_ n3_ n4_; clear ho hb hg hat))
          go_loopg [7] k1 (fun kq v7 w' => ∃ (x7_2 : List Int), Aside0 (hopperref24_Sum.l1 kq a0 x4_1 x5_1 x7_2 = some r) ∧ Aside0 (kq ≤ k1) ∧ Aside0 (Kd.R (Kd.int .u32) 66 w' w.heap.size (fun k_ => some k_ ≠ (u5 : Value).ownBlock) u4 x4_1) ∧ Aside0 (Kd.R (Kd.int .u32) 66 w' w.heap.size (fun k_ => some k_ ≠ (u4 : Value).ownBlock) u5 x5_1) ∧ Aside0 (FRow w' w.heap.size v7 x7_2) ∧ Aside0 (Below w.heap.size w w'))
          case atStart => exact ⟨(y197), H', ⟨Nat.le_refl _⟩, ⟨by (with_reducible repeat (first | apply Kd.R_alloc | apply Kd.R_drewN | apply Kd.R_drew | apply FR_alloc | apply FR_drewN | apply FR_drew)); exact HO_4.out⟩, ⟨by (with_reducible repeat (first | apply Kd.R_alloc | apply Kd.R_drewN | apply Kd.R_drew | apply FR_alloc | apply FR_drewN | apply FR_drew)); exact HO_5.out⟩, ⟨by (with_reducible repeat (first | apply Kd.R_alloc | apply Kd.R_drewN | apply Kd.R_drew | apply FR_alloc | apply FR_drewN | apply FR_drew)); exact HO199.out⟩, ⟨by repeat (first | (with_reducible first | exact HB.out | apply below_alloc | apply pw_below_drewN | apply below_drew1) | exact HB.out)⟩⟩
          case round =>
            clear H'
            try clear c1
            try clear p1
            try clear q1
            try clear hx1
            try clear c2
            try clear p2
            try clear c4
            try clear c4b0
            try clear c5
            try clear c5b0
            try clear c6
            try clear c6b0
            try clear p6
            try clear c7
            try clear c7b0
            try clear c9
            try clear c11
            try clear c14
            try clear c15
            try clear c15b0
            try clear c16
            try clear c16b0
            try clear p17
            try clear q17
            try clear hx17
            try clear c18
            try clear p18
            try clear q18
            try clear hx18
            try clear c21
            try clear hx179_0
            try clear hx184_0
            try clear hx189_0
            try clear p179
            try clear p184
            try clear p189
            try clear p2
            try clear q179
            try clear q184
            try clear q189
            obtain ⟨x7_2, HA, HK2, HO_4, HO_5, HO_7, HB⟩ := hrel
            cases gk with
            | zero => exact absurd HA.out (by simp [hopperref24_Sum.l1])
            | succ k2 =>
              have H := HA.out
              clear HA
              simp only [hopperref24_Sum.l1] at H
              by_cases c25 : ((x7_2.length : Int) % 64) = 56
              · rw [if_pos c25] at H
                have c25b0 : (((x7_2.length : Int) % 64) == 56) = true := beq_iff_eq.mpr c25
                have c25b1 : (((x7_2.length : Int) % 64) != 56) = false := bne_eq_false_iff_eq.mpr c25
                clear c25
                have H' := Aside0.mk H
                clear H
                obtain ⟨Ao26, co26, eo26⟩ := FR_slice HO_7.out
                subst eo26
                go_wp2
                go_loopg [7, 9] k2 (fun kq v7 v9 w' => ∃ (x7_3 : List Int) (x9_3 : Int), v9 = .int .i64 x9_3 ∧ Aside0 (hopperref24_Sum.l2 kq x4_1 x5_1 x7_3 (IntKind.u64.wrap ((IntKind.u64.wrap ((a0.size : Int))) * 8)) x9_3 = some r) ∧ Aside0 (kq ≤ k2) ∧ Aside0 (Kd.R (Kd.int .u32) 66 w' w.heap.size (fun k_ => some k_ ≠ (u5 : Value).ownBlock) u4 x4_1) ∧ Aside0 (Kd.R (Kd.int .u32) 66 w' w.heap.size (fun k_ => some k_ ≠ (u4 : Value).ownBlock) u5 x5_1) ∧ Aside0 (FRow w' w.heap.size v7 x7_3) ∧ Aside0 (Below w.heap.size w w'))
                case atStart => exact ⟨(x7_2), (7), (by first | rfl | (simp; done) | (simp [*]; done) | (simp [bne_nil_]; done)), H', ⟨Nat.le_refl _⟩, ⟨by (with_reducible repeat (first | apply Kd.R_alloc | apply Kd.R_drewN | apply Kd.R_drew | apply FR_alloc | apply FR_drewN | apply FR_drew)); exact HO_4.out⟩, ⟨by (with_reducible repeat (first | apply Kd.R_alloc | apply Kd.R_drewN | apply Kd.R_drew | apply FR_alloc | apply FR_drewN | apply FR_drew)); exact HO_5.out⟩, ⟨by (with_reducible repeat (first | apply Kd.R_alloc | apply Kd.R_drewN | apply Kd.R_drew | apply FR_alloc | apply FR_drewN | apply FR_drew)); exact HO_7.out⟩, ⟨by repeat (first | (with_reducible first | exact HB.out | apply below_alloc | apply pw_below_drewN | apply below_drew1) | exact HB.out)⟩⟩
                case round =>
                  clear H'
                  try clear c1
                  try clear p1
                  try clear q1
                  try clear hx1
                  try clear c2
                  try clear p2
                  try clear c4
                  try clear c4b0
                  try clear c5
                  try clear c5b0
                  try clear c6
                  try clear c6b0
                  try clear p6
                  try clear c7
                  try clear c7b0
                  try clear c9
                  try clear c11
                  try clear c14
                  try clear c15
                  try clear c15b0
                  try clear c16
                  try clear c16b0
                  try clear p17
                  try clear q17
                  try clear hx17
                  try clear c18
                  try clear p18
                  try clear q18
                  try clear hx18
                  try clear c21
                  try clear c25
                  try clear c25b0
                  try clear c25b1
                  try clear hx179_0
                  try clear hx184_0
                  try clear hx189_0
                  try clear p1
                  try clear p17
                  try clear p179
                  try clear p18
                  try clear p184
                  try clear p189
                  try clear p2
                  try clear p6
                  try clear q1
                  try clear q17
                  try clear q179
                  try clear q18
                  try clear q184
                  try clear q189
                  obtain ⟨x7_3, x9_3, rfl, HA, HK3, HO_4, HO_5, HO_7, HB⟩ := hrel
                  cases gk with
                  | zero => exact absurd HA.out (by simp [hopperref24_Sum.l2])
                  | succ k3 =>
                    have H := HA.out
                    clear HA
                    simp only [hopperref24_Sum.l2] at H
                    by_cases c27 : x9_3 ≥ 0
                    · rw [if_pos c27] at H
                      have c27b0 : decide (0 ≤ x9_3) = true := decide_eq_true c27
                      clear c27
                      obtain ⟨ji28, hji28⟩ : ∃ j_ : Int, (IntKind.u64.wrap (wrap64 (8 * x9_3))) = j_ := ⟨_, rfl⟩
                      replace H : (if 0 ≤ (ji28) then (if x7_3.length < 140737488355328 then (hopperref24_Sum.l2 k3 x4_1 x5_1 (x7_3 ++ [(shr .u64 (IntKind.u64.wrap ((IntKind.u64.wrap ((a0.size : Int))) * 8)) (ji28)) % 256]) (IntKind.u64.wrap ((IntKind.u64.wrap ((a0.size : Int))) * 8)) (wrap64 (x9_3 - 1))) else (none)) else (none)) = some r := by first | (rw [hji28] at H; exact H) | (simp only [hji28] at H ⊢; exact H)
                      by_cases c29 : 0 ≤ (ji28)
                      · rw [if_pos c29] at H
                        have c29b0 := eq_true c29
                        have c29b1 : decide (0 ≤ (ji28)) = true := decide_eq_true c29
                        clear c29
                        obtain ⟨ji30, hji30⟩ : ∃ j_ : Int, (shr .u64 (IntKind.u64.wrap ((IntKind.u64.wrap ((a0.size : Int))) * 8)) (ji28)) = j_ := ⟨_, rfl⟩
                        replace H : (if x7_3.length < 140737488355328 then (hopperref24_Sum.l2 k3 x4_1 x5_1 (x7_3 ++ [(ji30) % 256]) (IntKind.u64.wrap ((IntKind.u64.wrap ((a0.size : Int))) * 8)) (wrap64 (x9_3 - 1))) else (none)) = some r := by first | (rw [hji30] at H; exact H) | (simp only [hji30] at H ⊢; exact H)
                        have hji30_ : ((IntKind.u64.wrap ((IntKind.u64.wrap ((a0.size : Int))) * 8)) / 2 ^ min (ji28).toNat 64) = ji30 := hji30
                        have hji30z : (ji28) ≤ 64 → ((IntKind.u64.wrap ((IntKind.u64.wrap ((a0.size : Int))) * 8)) / 2 ^ (ji28).toNat) = ji30 := shr_small hji30
                        by_cases c31 : x7_3.length < 140737488355328
                        · rw [if_pos c31] at H
                          have LMc31 := Aside0.mk c31
                          clear c31
                          obtain ⟨y203, hy203⟩ : ∃ y_ : List Int, y_ = (x7_3 ++ [(ji30) % 256]) := ⟨_, rfl⟩
                          replace H : (hopperref24_Sum.l2 k3 x4_1 x5_1 y203 (IntKind.u64.wrap ((IntKind.u64.wrap ((a0.size : Int))) * 8)) (wrap64 (x9_3 - 1))) = some r := by first | (rw [hy203]; with_reducible exact H) | (have H2_ := (Option.bind_some _ _).symm.trans H; rw [hy203]; with_reducible exact H2_) | (have H2_ := (Option.bind_some _ _).symm.trans H; with_reducible exact H2_) | with_reducible exact H | (rw [hy203]; exact H) | exact H
                          have Ny203 := Aside0.mk hy203
                          clear hy203
                          have H' := Aside0.mk H
                          clear H
                          go_wp2_with (first | ((with_reducible refine gate_builtin (b := .append) (xs := #[.tmp 55, .tmp 62]) rfl ?_); at_builtin; refine FR_append (w0 := w) w.heap.size rfl (.tmp 55) (.tmp 62) 32 rfl Tryd.underlying32 u7 x7_3 ((ji30) % 256) rfl rfl ?aO ?aB ?aS ?aL ?_; (case aB => exact (by repeat (first | (with_reducible first | exact HB.out | apply below_alloc | apply pw_below_drewN | apply below_drew1) | exact HB.out))); (case aO => exact (by (with_reducible repeat (first | apply Kd.R_alloc | apply Kd.R_drewN | apply Kd.R_drew | apply FR_alloc | apply FR_drewN | apply FR_drew)); exact HO_7.out)); (case aS => exact (below_size (by repeat (first | (with_reducible first | exact HB.out | apply below_alloc | apply pw_below_drewN | apply below_drew1) | exact HB.out)))); (case aL => have := LMc31.out; omega); intro v204 w32 ho hb hg hat; rw [← Ny203.out] at ho; have n0_ := Aside0.mk (R_overF (by (with_reducible repeat (first | apply Kd.R_alloc | apply Kd.R_drewN | apply Kd.R_drew | apply FR_alloc | apply FR_drewN | apply FR_drew)); exact HO_4.out) (by (with_reducible repeat (first | apply Kd.R_alloc | apply Kd.R_drewN | apply Kd.R_drew | apply FR_alloc | apply FR_drewN | apply FR_drew)); exact HO_7.out) (by decide) hg); have n1_ := Aside0.mk (R_overF (by (with_reducible repeat (first | apply Kd.R_alloc | apply Kd.R_drewN | apply Kd.R_drew | apply FR_alloc | apply FR_drewN | apply FR_drew)); exact HO_5.out) (by (with_reducible repeat (first | apply Kd.R_alloc | apply Kd.R_drewN | apply Kd.R_drew | apply FR_alloc | apply FR_drewN | apply FR_drew)); exact HO_7.out) (by decide) hg); have n2_ := Aside0.mk (hb); have n3_ := Aside0.mk (ho); clear HO_4; clear HO_5; clear HB; clear HO_7; have HO_4 := n0_; have HO_5 := n1_; have HB := n2_; have HO205 := n3_; clear n0_ n1_ n2_ n3_; clear ho hb hg hat))
                          go_roundg k3
                          case measure => have := HK1.out; have := HK2.out; have := HK3.out; omega
                          case rel => exact ⟨(y203), (wrap64 (x9_3 - 1)), (by first | rfl | (simp; done) | (simp [*]; done) | (simp [bne_nil_]; done)), H', ⟨by have := HK1.out; have := HK2.out; have := HK3.out; omega⟩, ⟨by (with_reducible repeat (first | apply Kd.R_alloc | apply Kd.R_drewN | apply Kd.R_drew | apply FR_alloc | apply FR_drewN | apply FR_drew)); exact HO_4.out⟩, ⟨by (with_reducible repeat (first | apply Kd.R_alloc | apply Kd.R_drewN | apply Kd.R_drew | apply FR_alloc | apply FR_drewN | apply FR_drew)); exact HO_5.out⟩, ⟨by (with_reducible repeat (first | apply Kd.R_alloc | apply Kd.R_drewN | apply Kd.R_drew | apply FR_alloc | apply FR_drewN | apply FR_drew)); exact HO205.out⟩, ⟨by repeat (first | (with_reducible first | exact HB.out | apply below_alloc | apply pw_below_drewN | apply below_drew1) | exact HB.out)⟩⟩
                        · rw [if_neg c31] at H
                          exact absurd H (by simp)
                      · rw [if_neg c29] at H
                        exact absurd H (by simp)
                    · rw [if_neg c27] at H
                      have c27b0 : decide (0 ≤ x9_3) = false := decide_eq_false c27
                      clear c27
                      have H' := Aside0.mk H
                      clear H
                      go_wp2
                      go_loopg [4, 10] k3 (fun kq v4 v10 w' => ∃ (x4_4 : List Int) (x10_4 : Int), v10 = .int .i64 x10_4 ∧ Aside0 (hopperref24_Sum.l3 kq x4_4 x5_1 x7_3 x10_4 = some r) ∧ Aside0 (kq ≤ k3) ∧ Aside0 (Kd.R (Kd.int .u32) 66 w' w.heap.size (fun k_ => some k_ ≠ (u5 : Value).ownBlock) v4 x4_4) ∧ Aside0 (Kd.R (Kd.int .u32) 66 w' w.heap.size (fun k_ => some k_ ≠ (v4 : Value).ownBlock) u5 x5_1) ∧ Aside0 (FRow w' w.heap.size u7 x7_3) ∧ Aside0 (Below w.heap.size w w'))
                      case atStart => exact ⟨(x4_1), (0), (by first | rfl | (simp; done) | (simp [*]; done) | (simp [bne_nil_]; done)), H', ⟨Nat.le_refl _⟩, ⟨by (with_reducible repeat (first | apply Kd.R_alloc | apply Kd.R_drewN | apply Kd.R_drew | apply FR_alloc | apply FR_drewN | apply FR_drew)); exact HO_4.out⟩, ⟨by (with_reducible repeat (first | apply Kd.R_alloc | apply Kd.R_drewN | apply Kd.R_drew | apply FR_alloc | apply FR_drewN | apply FR_drew)); exact HO_5.out⟩, ⟨by (with_reducible repeat (first | apply Kd.R_alloc | apply Kd.R_drewN | apply Kd.R_drew | apply FR_alloc | apply FR_drewN | apply FR_drew)); exact HO_7.out⟩, ⟨by repeat (first | (with_reducible first | exact HB.out | apply below_alloc | apply pw_below_drewN | apply below_drew1) | exact HB.out)⟩⟩
                      case round =>
                        clear H'
                        try clear c1
                        try clear p1
                        try clear q1
                        try clear hx1
                        try clear c2
                        try clear p2
                        try clear c3
                        try clear c4
                        try clear c4b0
                        try clear c5
                        try clear c5b0
                        try clear c6
                        try clear c6b0
                        try clear p6
                        try clear c7
                        try clear c7b0
                        try clear c9
                        try clear c11
                        try clear c14
                        try clear c15
                        try clear c15b0
                        try clear c16
                        try clear c16b0
                        try clear p17
                        try clear q17
                        try clear hx17
                        try clear c18
                        try clear p18
                        try clear q18
                        try clear hx18
                        try clear c21
                        try clear c25
                        try clear c25b0
                        try clear c25b1
                        try clear c27
                        try clear c27b0
                        try clear c29
                        try clear c29b0
                        try clear c29b1
                        try clear c31
                        try clear hx179_0
                        try clear hx184_0
                        try clear hx189_0
                        try clear p1
                        try clear p17
                        try clear p179
                        try clear p18
                        try clear p184
                        try clear p189
                        try clear p2
                        try clear p6
                        try clear q1
                        try clear q17
                        try clear q179
                        try clear q18
                        try clear q184
                        try clear q189
                        obtain ⟨x4_4, x10_4, rfl, HA, HK4, HO_4, HO_5, HO_7, HB⟩ := hrel
                        cases gk with
                        | zero => exact absurd HA.out (by simp [hopperref24_Sum.l3])
                        | succ k4 =>
                          have H := HA.out
                          clear HA
                          simp only [hopperref24_Sum.l3] at H
                          by_cases c33 : x10_4 < (x7_3.length : Int)
                          · rw [if_pos c33] at H
                            have c33b0 : decide (x10_4 < (x7_3.length : Int)) = true := decide_eq_true c33
                            clear c33
                            by_cases c34 : 0 ≤ x10_4
                            · rw [if_pos c34] at H
                              have c34b0 := eq_true c34
                              have c34b1 : decide (0 ≤ x10_4) = true := decide_eq_true c34
                              clear c34
                              by_cases c35 : x10_4 ≤ (wrap64 (x10_4 + 64))
                              · rw [if_pos c35] at H
                                have c35b0 := eq_true c35
                                have c35b1 : decide (x10_4 ≤ (wrap64 (x10_4 + 64))) = true := decide_eq_true c35
                                by_cases c36 : (wrap64 (x10_4 + 64)) ≤ (x7_3.length : Int)
                                · rw [if_pos c36] at H
                                  have c36b0 := eq_true c36
                                  have c36b1 : decide ((wrap64 (x10_4 + 64)) ≤ (x7_3.length : Int)) = true := decide_eq_true c36
                                  obtain ⟨y206, hy206⟩ : ∃ y_ : List Int, y_ = ((x7_3.take ((wrap64 (x10_4 + 64)) : Int).toNat).drop (x10_4 : Int).toNat) := ⟨_, rfl⟩
                                  replace H : ((hopperref24_block.f k4 x4_4 x5_1 y206).bind fun t210 => (hopperref24_Sum.l3 k4 t210 x5_1 x7_3 (wrap64 (x10_4 + 64)))) = some r := by first | (rw [hy206]; with_reducible exact H) | (have H2_ := (Option.bind_some _ _).symm.trans H; rw [hy206]; with_reducible exact H2_) | (have H2_ := (Option.bind_some _ _).symm.trans H; with_reducible exact H2_) | with_reducible exact H | (rw [hy206]; exact H) | exact H
                                  have Ny206 := Aside0.mk hy206
                                  clear hy206
                                  replace H := Option.bind_eq_some_iff.mp H
                                  obtain ⟨t210, A370, H⟩ := H
                                  replace H : (hopperref24_Sum.l3 k4 t210 x5_1 x7_3 (wrap64 (x10_4 + 64))) = some r := H
                                  have A37 := Aside0.mk A370
                                  clear A370
                                  have H' := Aside0.mk H
                                  clear H
                                  obtain ⟨Ao38, co38, eo38⟩ := FR_slice HO_7.out
                                  subst eo38
                                  have q39 : ((wrap64 (x10_4 + 64)) : Int) ≤ ((x7_3.length : Int) : Int) := of_decide_eq_true (by first | (with_reducible assumption) | assumption)
                                  obtain ⟨i039, hi039, _, hsz39, _⟩ := info_parts info5
                                  have hroom39 : x7_3.length ≤ co38 := (FR_reads' HO_7.out).2.1
                                  have hC39 : Kd.C (Kd.int .u8) _ Ao38 x7_3.length x7_3 := (FR_reads' HO_7.out).2.2
                                  have ql39 : (x10_4 : Int) ≤ ((wrap64 (x10_4 + 64)) : Int) := of_decide_eq_true (by first | (with_reducible assumption) | assumption)
                                  have q039 : (0 : Int) ≤ (x10_4 : Int) := of_decide_eq_true (by first | (with_reducible assumption) | assumption)
                                  have hcut39 := cut_mid (P := Tryd.prog) 32 5 .i64 .i64 Tryd.underlying32 hi039 1 hsz39 Ao38 x7_3.length co38 x10_4 (wrap64 (x10_4 + 64)) q039 ql39 q39 hroom39
                                  have hr39 := Kd.C_mid (lo := (x10_4 : Int).toNat) (hi := ((wrap64 (x10_4 + 64)) : Int).toNat) (c := co38) hC39 (by omega) (by omega) hroom39
                                  obtain ⟨A39, hA39⟩ : ∃ A1, A1 = (if co38 = (x10_4 : Int).toNat then Ao38 else (Ao38 : Option Addr).map (·.add ((x10_4 : Int).toNat * 1))) := ⟨_, rfl⟩
                                  obtain ⟨c39, hc39⟩ : ∃ c1, c1 = co38 - (x10_4 : Int).toNat := ⟨_, rfl⟩
                                  have hy39 : y206.length = ((wrap64 (x10_4 + 64)) : Int).toNat - (x10_4 : Int).toNat := (by rw [Ny206.out, List.length_drop, List.length_take] <;> omega)
                                  rw [show ((x7_3).take ((wrap64 (x10_4 + 64)) : Int).toNat).drop (x10_4 : Int).toNat = y206 from Ny206.out.symm] at hr39
                                  replace hr39 : Kd.C (Kd.int .u8) _ A39 y206.length y206 := (by rw [hA39]; exact hr39)
                                  rw [← hy39, ← hA39, ← hc39] at hcut39
                                  have HR209 := Aside0.mk hr39
                                  have HC209 := Aside0.mk (show y206.length ≤ c39 from by rw [hy39, hc39]; exact Nat.sub_le_sub_right (Nat.le_trans (by omega) hroom39) _)
                                  clear hr39 hC39 hroom39 hi039 hsz39 hc39
                                  have KY39 := Aside0.mk hy39
                                  have KA39 := Aside0.mk hA39
                                  clear hy39 hA39
                                  have KL39 := Aside0.mk (show ((wrap64 (x10_4 + 64)) : Int).toNat ≤ x7_3.length from by omega)
                                  have KM39 := Aside0.mk (show (x10_4 : Int).toNat ≤ ((wrap64 (x10_4 + 64)) : Int).toNat from by omega)
                                  replace q39 := eq_true q39
                                  obtain ⟨Ao40, co40, eo40⟩ := Kd.R_slice HO_4.out
                                  subst eo40
                                  obtain ⟨Ao41, co41, eo41⟩ := Kd.R_slice HO_5.out
                                  subst eo41
                                  go_wp2_with (first | ((with_reducible refine gate_callee (f := 43) rfl ?_); refine goesL_ (some 77) rfl rfl Tryd.func43 (by kernel_rfl) rfl #[.slice Ao40 x4_4.length co40, .slice Ao41 x5_1.length co41, .slice A39 y206.length c39] rfl (by (try simp only [List.map_toArray, List.map_cons, List.map_nil]); first | done | rfl | (simp only [List.length_drop, List.length_take]; rfl)) ?_; (with_reducible refine (hopperref24_block.calls k4 _ _ x4_4 _ _ x5_1 _ _ y206 t210 _ ?side1 ?side2 ?side3 ?side4 ?side5 ?side6 A37.out).mono ?_); (case side1 => repeat (first | exact (Kd.R_reads' HO_4.out).2.2 | (with_reducible refine Kd.C_alloc ?_ _) | (with_reducible refine Kd.C_drewN ?_ _) | (with_reducible refine Kd.C_drew ?_))); (case side2 => exact (Kd.R_reads' HO_4.out).2.1); (case side3 => repeat (first | exact (Kd.R_reads' HO_5.out).2.2 | (with_reducible refine Kd.C_alloc ?_ _) | (with_reducible refine Kd.C_drewN ?_ _) | (with_reducible refine Kd.C_drew ?_))); (case side4 => exact (Kd.R_reads' HO_5.out).2.1); (case side5 => repeat (first | exact (by repeat (first | (with_reducible exact HR209.out) | (with_reducible refine Kd.C_alloc ?_ _) | (with_reducible refine Kd.C_drewN ?_ _) | (with_reducible refine Kd.C_drew ?_) | exact HR209.out)) | (with_reducible refine Kd.C_alloc ?_ _) | (with_reducible refine Kd.C_drewN ?_ _) | (with_reducible refine Kd.C_drew ?_))); (case side6 => exact HC209.out); rintro e w42 ⟨v211, rfl, ho0, hb⟩; refine ⟨_, rfl, ?_⟩; have n0_ := Aside0.mk (Kd.R_elder' (by (with_reducible repeat (first | apply Kd.R_alloc | apply Kd.R_drewN | apply Kd.R_drew | apply FR_alloc | apply FR_drewN | apply FR_drew)); exact HO_4.out) (Kd.R_base ho0) hb); have n1_ := Aside0.mk (Kd.R_elder' (by (with_reducible repeat (first | apply Kd.R_alloc | apply Kd.R_drewN | apply Kd.R_drew | apply FR_alloc | apply FR_drewN | apply FR_drew)); exact HO_5.out) (Kd.R_base ho0) hb); have n2_ := Aside0.mk (FR_below (by (with_reducible repeat (first | apply Kd.R_alloc | apply Kd.R_drewN | apply Kd.R_drew | apply FR_alloc | apply FR_drewN | apply FR_drew)); exact HO_7.out) hb); have n3_ := Aside0.mk (Kd.R_lower (Kd.R_new' (Kd.R_new' ho0 (Kd.R_lt (by (with_reducible repeat (first | apply Kd.R_alloc | apply Kd.R_drewN | apply Kd.R_drew | apply FR_alloc | apply FR_drewN | apply FR_drew)); exact HO_4.out))) (Kd.R_lt (by (with_reducible repeat (first | apply Kd.R_alloc | apply Kd.R_drewN | apply Kd.R_drew | apply FR_alloc | apply FR_drewN | apply FR_drew)); exact HO_5.out))) (below_size (by repeat (first | (with_reducible first | exact HB.out | apply below_alloc | apply pw_below_drewN | apply below_drew1) | exact HB.out)))); have n4_ := Aside0.mk (Kd.C_below (by repeat (first | (with_reducible exact HR209.out) | (with_reducible refine Kd.C_alloc ?_ _) | (with_reducible refine Kd.C_drewN ?_ _) | (with_reducible refine Kd.C_drew ?_) | exact HR209.out)) hb); have n5_ := Aside0.mk (below_step (by repeat (first | (with_reducible first | exact HB.out | apply below_alloc | apply pw_below_drewN | apply below_drew1) | exact HB.out)) hb); clear HO_4; clear HO_5; clear HO_7; clear HR209; clear HB; have HO_4 := n0_; have HO_5 := n1_; have HO_7 := n2_; have HO212 := n3_; have HR209 := n4_; have HB := n5_; clear n0_ n1_ n2_ n3_ n4_ n5_; (try clear hb); (try clear hb2); (try clear hk); (try clear hi); (try clear ho0)))
                                  go_roundg k4
                                  case measure => have := HK1.out; have := HK2.out; have := HK3.out; have := HK4.out; omega
                                  case rel => exact ⟨(t210), (wrap64 (x10_4 + 64)), (by first | rfl | (simp; done) | (simp [*]; done) | (simp [bne_nil_]; done)), H', ⟨by have := HK1.out; have := HK2.out; have := HK3.out; have := HK4.out; omega⟩, ⟨by (with_reducible repeat (first | apply Kd.R_alloc | apply Kd.R_drewN | apply Kd.R_drew | apply FR_alloc | apply FR_drewN | apply FR_drew)); exact Kd.R_mono HO212.out (fun _ hk => hk.2)⟩, ⟨by (with_reducible repeat (first | apply Kd.R_alloc | apply Kd.R_drewN | apply Kd.R_drew | apply FR_alloc | apply FR_drewN | apply FR_drew)); exact Kd.R_mono HO_5.out (fun _ hk => hk.2)⟩, ⟨by (with_reducible repeat (first | apply Kd.R_alloc | apply Kd.R_drewN | apply Kd.R_drew | apply FR_alloc | apply FR_drewN | apply FR_drew)); exact HO_7.out⟩, ⟨by repeat (first | (with_reducible first | exact HB.out | apply below_alloc | apply pw_below_drewN | apply below_drew1) | exact HB.out)⟩⟩
                                · rw [if_neg c36] at H
                                  exact absurd H (by simp)
                              · rw [if_neg c35] at H
                                exact absurd H (by simp)
                            · rw [if_neg c34] at H
                              exact absurd H (by simp)
                          · rw [if_neg c33] at H
                            have c33b0 : decide (x10_4 < (x7_3.length : Int)) = false := decide_eq_false c33
                            clear c33
                            have H' := Aside0.mk H
                            clear H
                            obtain ⟨Ao43, co43, eo43⟩ := FR_slice HO_7.out
                            subst eo43
                            go_wp2
                            go_loopg [11, 12] k4 (fun kq v11 v12 w' => ∃ (x11_5 : List Int) (x12_5 : Int), v12 = .int .i64 x12_5 ∧ Aside0 (hopperref24_Sum.l4 kq x4_4 x11_5 x12_5 = some r) ∧ Aside0 (kq ≤ k4) ∧ Aside0 (Kd.R (Kd.int .u32) 66 w' w.heap.size (fun _ => True) u4 x4_4) ∧ Aside0 (Kd.R (Kd.int .u8) 5 w' w.heap.size (fun _ => True) v11 x11_5) ∧ Aside0 (Below w.heap.size w w'))
                            case atStart => exact ⟨(([] : List Int)), (0), (by first | rfl | (simp; done) | (simp [*]; done) | (simp [bne_nil_]; done)), H', ⟨Nat.le_refl _⟩, ⟨by (with_reducible repeat (first | apply Kd.R_alloc | apply Kd.R_drewN | apply Kd.R_drew | apply FR_alloc | apply FR_drewN | apply FR_drew)); exact Kd.R_mono HO_4.out (fun _ hk => trivial)⟩, ⟨by first | exact Kd.R_nil _ _ _ _ _ | exact Kd.N_nil _ _ _ _ _ | exact Kd.V_nil _ _ _ _ _ | exact Kd.Q_nil _ _ _ _ _ | exact Kd.S_nil _ _ _ _ _⟩, ⟨by repeat (first | (with_reducible first | exact HB.out | apply below_alloc | apply pw_below_drewN | apply below_drew1) | exact HB.out)⟩⟩
                            case round =>
                              clear H'
                              try clear c1
                              try clear p1
                              try clear q1
                              try clear hx1
                              try clear c2
                              try clear p2
                              try clear c3
                              try clear q3
                              try clear c4
                              try clear c4b0
                              try clear c5
                              try clear c5b0
                              try clear c6
                              try clear c6b0
                              try clear p6
                              try clear c7
                              try clear c7b0
                              try clear c9
                              try clear c11
                              try clear c14
                              try clear c15
                              try clear c15b0
                              try clear c16
                              try clear c16b0
                              try clear p17
                              try clear q17
                              try clear hx17
                              try clear c18
                              try clear p18
                              try clear q18
                              try clear hx18
                              try clear c21
                              try clear c25
                              try clear c25b0
                              try clear c25b1
                              try clear c27
                              try clear c27b0
                              try clear c29
                              try clear c29b0
                              try clear c29b1
                              try clear c31
                              try clear c33
                              try clear c33b0
                              try clear c34
                              try clear c34b0
                              try clear c34b1
                              try clear c35
                              try clear c35b0
                              try clear c35b1
                              try clear c36
                              try clear c36b0
                              try clear c36b1
                              try clear c39
                              try clear q39
                              try clear c40
                              try clear c41
                              try clear c42
                              try clear c43
                              try clear hx179_0
                              try clear hx184_0
                              try clear hx189_0
                              try clear p1
                              try clear p17
                              try clear p179
                              try clear p18
                              try clear p184
                              try clear p189
                              try clear p2
                              try clear p6
                              try clear q039
                              try clear q1
                              try clear q17
                              try clear q179
                              try clear q18
                              try clear q184
                              try clear q189
                              try clear q39
                              obtain ⟨x11_5, x12_5, rfl, HA, HK5, HO_4, HO_11, HB⟩ := hrel
                              cases gk with
                              | zero => exact absurd HA.out (by simp [hopperref24_Sum.l4])
                              | succ k5 =>
                                have H := HA.out
                                clear HA
                                simp only [hopperref24_Sum.l4] at H
                                by_cases c44 : x12_5 < 8
                                · rw [if_pos c44] at H
                                  have c44b0 : decide (x12_5 < 8) = true := decide_eq_true c44
                                  clear c44
                                  by_cases c45 : 0 ≤ x12_5
                                  · rw [if_pos c45] at H
                                    have c45b0 : decide (0 ≤ x12_5) = true := decide_eq_true c45
                                    clear c45
                                    by_cases c46 : x12_5 < (x4_4.length : Int)
                                    · rw [if_pos c46] at H
                                      have c46b0 : decide (x12_5 < (x4_4.length : Int)) = true := decide_eq_true c46
                                      clear c46
                                      obtain ⟨y217, hy217⟩ : ∃ y_ : List Int, y_ = (([((rd x4_4 x12_5) / 16777216) % 256, ((rd x4_4 x12_5) / 65536) % 256, ((rd x4_4 x12_5) / 256) % 256, (rd x4_4 x12_5) % 256] : List Int)) := ⟨_, rfl⟩
                                      replace H : (if x11_5.length + y217.length < 140737488355328 then (hopperref24_Sum.l4 k5 x4_4 (x11_5 ++ y217) (wrap64 (x12_5 + 1))) else (none)) = some r := by first | (rw [hy217]; with_reducible exact H) | (have H2_ := (Option.bind_some _ _).symm.trans H; rw [hy217]; with_reducible exact H2_) | (have H2_ := (Option.bind_some _ _).symm.trans H; with_reducible exact H2_) | with_reducible exact H | (rw [hy217]; exact H) | exact H
                                      have Ny217 := Aside0.mk hy217
                                      clear hy217
                                      by_cases c47 : x11_5.length + y217.length < 140737488355328
                                      · rw [if_pos c47] at H
                                        have LMc47 := Aside0.mk c47
                                        clear c47
                                        obtain ⟨y220, hy220⟩ : ∃ y_ : List Int, y_ = (x11_5 ++ y217) := ⟨_, rfl⟩
                                        replace H : (hopperref24_Sum.l4 k5 x4_4 y220 (wrap64 (x12_5 + 1))) = some r := by first | (rw [hy220]; with_reducible exact H) | (have H2_ := (Option.bind_some _ _).symm.trans H; rw [hy220]; with_reducible exact H2_) | (have H2_ := (Option.bind_some _ _).symm.trans H; with_reducible exact H2_) | with_reducible exact H | (rw [hy220]; exact H) | exact H
                                        have Ny220 := Aside0.mk hy220
                                        clear hy220
                                        have H' := Aside0.mk H
                                        clear H
                                        try go_wp2
                                        have n0_ := Aside0.mk (Kd.R_drew HO_4.out)
                                        have n1_ := Aside0.mk (Kd.R_drew HO_11.out)
                                        have n2_ := Aside0.mk (below_drew1 HB.out)
                                        clear HO_4
                                        clear HO_11
                                        clear HB
                                        have HO_4 := n0_
                                        have HO_11 := n1_
                                        have HB := n2_
                                        clear n0_ n1_ n2_
                                        obtain ⟨Ao49, co49, eo49⟩ := Kd.R_slice HO_4.out
                                        (first | subst eo49 | (injection eo49 with f1_ f2_ f3_; have f4_ := f1_.symm; have f5_ := f3_.symm; clear f1_ f2_ f3_; subst f4_; subst f5_))
                                        have p213 : 0 ≤ (x12_5 : Int) := of_decide_eq_true (by first | (with_reducible assumption) | assumption)
                                        have q213 : x12_5 < (x4_4.length : Int) := of_decide_eq_true (by first | (with_reducible assumption) | assumption)
                                        obtain ⟨ad213, e213, hx213_0⟩ := Kd.at_int (Kd.R_reads' HO_4.out).2.2 x12_5 p213 q213
                                        cases e213
                                        replace p213 := eq_true p213
                                        replace q213 := eq_true q213
                                        have p214 : 0 ≤ (x12_5 : Int) := of_decide_eq_true (by first | (with_reducible assumption) | assumption)
                                        have q214 : x12_5 < (x4_4.length : Int) := of_decide_eq_true (by first | (with_reducible assumption) | assumption)
                                        obtain ⟨ad214, e214, hx214_0⟩ := Kd.at_int (Kd.R_reads' HO_4.out).2.2 x12_5 p214 q214
                                        obtain rfl : ad213 = ad214 := (by injection e214)
                                        replace p214 := eq_true p214
                                        replace q214 := eq_true q214
                                        have p215 : 0 ≤ (x12_5 : Int) := of_decide_eq_true (by first | (with_reducible assumption) | assumption)
                                        have q215 : x12_5 < (x4_4.length : Int) := of_decide_eq_true (by first | (with_reducible assumption) | assumption)
                                        obtain ⟨ad215, e215, hx215_0⟩ := Kd.at_int (Kd.R_reads' HO_4.out).2.2 x12_5 p215 q215
                                        obtain rfl : ad213 = ad215 := (by injection e215)
                                        replace p215 := eq_true p215
                                        replace q215 := eq_true q215
                                        have p216 : 0 ≤ (x12_5 : Int) := of_decide_eq_true (by first | (with_reducible assumption) | assumption)
                                        have q216 : x12_5 < (x4_4.length : Int) := of_decide_eq_true (by first | (with_reducible assumption) | assumption)
                                        obtain ⟨ad216, e216, hx216_0⟩ := Kd.at_int (Kd.R_reads' HO_4.out).2.2 x12_5 p216 q216
                                        obtain rfl : ad213 = ad216 := (by injection e216)
                                        replace p216 := eq_true p216
                                        replace q216 := eq_true q216
                                        refine start_ (n := 27) (S := fun w' => w'.cell? (ad213.add (x12_5).toNat) = some (.int .u32 (rd x4_4 x12_5)) ∧ w'.cell? (ad213.add (x12_5).toNat) = some (.int .u32 (rd x4_4 x12_5)) ∧ w'.cell? (ad213.add (x12_5).toNat) = some (.int .u32 (rd x4_4 x12_5)) ∧ w'.cell? (ad213.add (x12_5).toNat) = some (.int .u32 (rd x4_4 x12_5))) (ds := [25]) #[false, false, false, false, false, false, false, false, false, false, false, false, false, false, false, false, false, false, false, false, false, false, false, false, false, false, false] (by kernel_rfl) rfl rfl ⟨hx213_0, hx214_0, hx215_0, hx216_0⟩ (fun hHeld => ?_); refine with_tabW hopperref24_Sum.tab25 hopperref24_Sum.bits25 (fun HT_ HW_ => ?_)
                                        generalize wr.drew = w48 at HO_4 HO_11 HB hx213_0 hx214_0 hx215_0 hx216_0 hHeld ⊢
                                        refine pure_ (i := 0) (N := some 82) (v := ?_) (a' := ?_) #[true, false, false, false, false, false, false, false, false, false, false, false, false, false, false, false, false, false, false, false, false, false, false, false, false, false, false] rfl rfl (any_of HT_.out (by kernel_rfl)) (fun _ _ _ h => h) (Or.inl ⟨by rfl, ?_⟩) ?_ ?_
                                        rotate_left
                                        · intro w'
                                          go_simp
                                          with_reducible rfl
                                        rotate_left
                                        · simp only [Act.put, List.setIfInBounds_toArray, List.set_cons_zero, List.set_cons_succ, i64_w, i32_w]
                                          rfl
                                        refine pure_ (i := 1) (N := some 83) (v := ?_) (a' := ?_) #[true, true, false, false, false, false, false, false, false, false, false, false, false, false, false, false, false, false, false, false, false, false, false, false, false, false, false] rfl rfl (any_of HT_.out (by kernel_rfl)) (fun _ _ _ h => h) (Or.inl ⟨by rfl, ?_⟩) ?_ ?_
                                        rotate_left
                                        · intro w'
                                          go_simp
                                          with_reducible rfl
                                        rotate_left
                                        · simp only [Act.put, List.setIfInBounds_toArray, List.set_cons_zero, List.set_cons_succ, i64_w, i32_w]
                                          rfl
                                        refine pure_ (i := 2) (N := some 84) (v := ?_) (a' := ?_) #[true, true, true, false, false, false, false, false, false, false, false, false, false, false, false, false, false, false, false, false, false, false, false, false, false, false, false] rfl rfl (any_of HT_.out (by kernel_rfl)) (fun _ _ _ h => h) (Or.inl ⟨by rfl, ?_⟩) ?_ ?_
                                        rotate_left
                                        · intro w'
                                          go_simp
                                          with_reducible rfl
                                        rotate_left
                                        · simp only [Act.put, List.setIfInBounds_toArray, List.set_cons_zero, List.set_cons_succ, i64_w, i32_w]
                                          rfl
                                        refine pure_ (i := 3) (N := some 85) (v := ?_) (a' := ?_) #[true, true, true, true, false, false, false, false, false, false, false, false, false, false, false, false, false, false, false, false, false, false, false, false, false, false, false] rfl rfl (any_of HT_.out (by kernel_rfl)) (fun _ _ _ h => h) (Or.inl ⟨by rfl, ?_⟩) ?_ ?_
                                        rotate_left
                                        · intro w'
                                          go_simp
                                          with_reducible rfl
                                        rotate_left
                                        · simp only [Act.put, List.setIfInBounds_toArray, List.set_cons_zero, List.set_cons_succ, i64_w, i32_w]
                                          rfl
                                        refine pure_ (i := 7) (N := some 89) (v := ?_) (a' := ?_) #[true, true, true, true, false, false, false, true, false, false, false, false, false, false, false, false, false, false, false, false, false, false, false, false, false, false, false] rfl rfl (any_of HT_.out (by kernel_rfl)) (fun _ _ _ h => h) (Or.inl ⟨by rfl, ?_⟩) ?_ ?_
                                        rotate_left
                                        · intro w'
                                          go_simp
                                          with_reducible rfl
                                        rotate_left
                                        · simp only [Act.put, List.setIfInBounds_toArray, List.set_cons_zero, List.set_cons_succ, i64_w, i32_w]
                                          rfl
                                        refine pure_ (i := 8) (N := some 90) (v := ?_) (a' := ?_) #[true, true, true, true, false, false, false, true, true, false, false, false, false, false, false, false, false, false, false, false, false, false, false, false, false, false, false] rfl rfl (any_of HT_.out (by kernel_rfl)) (fun _ _ _ h => h) (Or.inl ⟨by rfl, ?_⟩) ?_ ?_
                                        rotate_left
                                        · intro w'
                                          go_simp
                                          with_reducible rfl
                                        rotate_left
                                        · simp only [Act.put, List.setIfInBounds_toArray, List.set_cons_zero, List.set_cons_succ, i64_w, i32_w]
                                          rfl
                                        refine pure_ (i := 9) (N := some 91) (v := ?_) (a' := ?_) #[true, true, true, true, false, false, false, true, true, true, false, false, false, false, false, false, false, false, false, false, false, false, false, false, false, false, false] rfl rfl (any_of HT_.out (by kernel_rfl)) (fun _ _ _ h => h) (Or.inl ⟨by rfl, ?_⟩) ?_ ?_
                                        rotate_left
                                        · intro w'
                                          go_simp
                                          with_reducible rfl
                                        rotate_left
                                        · simp only [Act.put, List.setIfInBounds_toArray, List.set_cons_zero, List.set_cons_succ, i64_w, i32_w]
                                          rfl
                                        refine pure_ (i := 13) (N := some 95) (v := ?_) (a' := ?_) #[true, true, true, true, false, false, false, true, true, true, false, false, false, true, false, false, false, false, false, false, false, false, false, false, false, false, false] rfl rfl (any_of HT_.out (by kernel_rfl)) (fun _ _ _ h => h) (Or.inl ⟨by rfl, ?_⟩) ?_ ?_
                                        rotate_left
                                        · intro w'
                                          go_simp
                                          with_reducible rfl
                                        rotate_left
                                        · simp only [Act.put, List.setIfInBounds_toArray, List.set_cons_zero, List.set_cons_succ, i64_w, i32_w]
                                          rfl
                                        refine pure_ (i := 14) (N := some 96) (v := ?_) (a' := ?_) #[true, true, true, true, false, false, false, true, true, true, false, false, false, true, true, false, false, false, false, false, false, false, false, false, false, false, false] rfl rfl (any_of HT_.out (by kernel_rfl)) (fun _ _ _ h => h) (Or.inl ⟨by rfl, ?_⟩) ?_ ?_
                                        rotate_left
                                        · intro w'
                                          go_simp
                                          with_reducible rfl
                                        rotate_left
                                        · simp only [Act.put, List.setIfInBounds_toArray, List.set_cons_zero, List.set_cons_succ, i64_w, i32_w]
                                          rfl
                                        refine pure_ (i := 15) (N := some 97) (v := ?_) (a' := ?_) #[true, true, true, true, false, false, false, true, true, true, false, false, false, true, true, true, false, false, false, false, false, false, false, false, false, false, false] rfl rfl (any_of HT_.out (by kernel_rfl)) (fun _ _ _ h => h) (Or.inl ⟨by rfl, ?_⟩) ?_ ?_
                                        rotate_left
                                        · intro w'
                                          go_simp
                                          with_reducible rfl
                                        rotate_left
                                        · simp only [Act.put, List.setIfInBounds_toArray, List.set_cons_zero, List.set_cons_succ, i64_w, i32_w]
                                          rfl
                                        refine pure_ (i := 19) (N := some 101) (v := ?_) (a' := ?_) #[true, true, true, true, false, false, false, true, true, true, false, false, false, true, true, true, false, false, false, true, false, false, false, false, false, false, false] rfl rfl (any_of HT_.out (by kernel_rfl)) (fun _ _ _ h => h) (Or.inl ⟨by rfl, ?_⟩) ?_ ?_
                                        rotate_left
                                        · intro w'
                                          go_simp
                                          with_reducible rfl
                                        rotate_left
                                        · simp only [Act.put, List.setIfInBounds_toArray, List.set_cons_zero, List.set_cons_succ, i64_w, i32_w]
                                          rfl
                                        refine pure_ (i := 20) (N := some 102) (v := ?_) (a' := ?_) #[true, true, true, true, false, false, false, true, true, true, false, false, false, true, true, true, false, false, false, true, true, false, false, false, false, false, false] rfl rfl (any_of HT_.out (by kernel_rfl)) (fun _ _ _ h => h) (Or.inl ⟨by rfl, ?_⟩) ?_ ?_
                                        rotate_left
                                        · intro w'
                                          go_simp
                                          with_reducible rfl
                                        rotate_left
                                        · simp only [Act.put, List.setIfInBounds_toArray, List.set_cons_zero, List.set_cons_succ, i64_w, i32_w]
                                          rfl
                                        refine pure_ (i := 21) (N := some 103) (v := ?_) (a' := ?_) #[true, true, true, true, false, false, false, true, true, true, false, false, false, true, true, true, false, false, false, true, true, true, false, false, false, false, false] rfl rfl (any_of HT_.out (by kernel_rfl)) (fun _ _ _ h => h) (Or.inl ⟨by rfl, ?_⟩) ?_ ?_
                                        rotate_left
                                        · intro w'
                                          go_simp
                                          with_reducible rfl
                                        rotate_left
                                        · simp only [Act.put, List.setIfInBounds_toArray, List.set_cons_zero, List.set_cons_succ, i64_w, i32_w]
                                          rfl
                                        refine take_ (i := 4) (N := some 86) (v := ?_) (a' := ?_) #[true, true, true, true, true, false, false, true, true, true, false, false, false, true, true, true, false, false, false, true, true, true, false, false, false, false, false] rfl rfl (take_ofW HT_.out HW_.out (by kernel_rfl)) (fun _ _ _ h => h) (Or.inl ⟨by rfl, ?_⟩) hHeld ?_ ?_
                                        rotate_left
                                        · rintro w' ⟨s0, s1, s2, s3⟩
                                          go_simp
                                          with_reducible rfl
                                        rotate_left
                                        · simp only [Act.put, List.setIfInBounds_toArray, List.set_cons_zero, List.set_cons_succ, i64_w, i32_w]
                                          rfl
                                        refine pure_ (i := 5) (N := some 87) (v := ?_) (a' := ?_) #[true, true, true, true, true, true, false, true, true, true, false, false, false, true, true, true, false, false, false, true, true, true, false, false, false, false, false] rfl rfl (any_of HT_.out (by kernel_rfl)) (fun _ _ _ h => h) (Or.inl ⟨by rfl, ?_⟩) ?_ ?_
                                        rotate_left
                                        · intro w'
                                          go_simp
                                          with_reducible rfl
                                        rotate_left
                                        · simp only [Act.put, List.setIfInBounds_toArray, List.set_cons_zero, List.set_cons_succ, i64_w, i32_w]
                                          rfl
                                        refine pure_ (i := 6) (N := some 88) (v := ?_) (a' := ?_) #[true, true, true, true, true, true, true, true, true, true, false, false, false, true, true, true, false, false, false, true, true, true, false, false, false, false, false] rfl rfl (any_of HT_.out (by kernel_rfl)) (fun _ _ _ h => h) (Or.inl ⟨by rfl, ?_⟩) ?_ ?_
                                        rotate_left
                                        · intro w'
                                          go_simp
                                          with_reducible rfl
                                        rotate_left
                                        · simp only [Act.put, List.setIfInBounds_toArray, List.set_cons_zero, List.set_cons_succ, i64_w, i32_w]
                                          rfl
                                        refine take_ (i := 10) (N := some 92) (v := ?_) (a' := ?_) #[true, true, true, true, true, true, true, true, true, true, true, false, false, true, true, true, false, false, false, true, true, true, false, false, false, false, false] rfl rfl (take_ofW HT_.out HW_.out (by kernel_rfl)) (fun _ _ _ h => h) (Or.inl ⟨by rfl, ?_⟩) hHeld ?_ ?_
                                        rotate_left
                                        · rintro w' ⟨s0, s1, s2, s3⟩
                                          go_simp
                                          with_reducible rfl
                                        rotate_left
                                        · simp only [Act.put, List.setIfInBounds_toArray, List.set_cons_zero, List.set_cons_succ, i64_w, i32_w]
                                          rfl
                                        refine pure_ (i := 11) (N := some 93) (v := ?_) (a' := ?_) #[true, true, true, true, true, true, true, true, true, true, true, true, false, true, true, true, false, false, false, true, true, true, false, false, false, false, false] rfl rfl (any_of HT_.out (by kernel_rfl)) (fun _ _ _ h => h) (Or.inl ⟨by rfl, ?_⟩) ?_ ?_
                                        rotate_left
                                        · intro w'
                                          go_simp
                                          with_reducible rfl
                                        rotate_left
                                        · simp only [Act.put, List.setIfInBounds_toArray, List.set_cons_zero, List.set_cons_succ, i64_w, i32_w]
                                          rfl
                                        refine pure_ (i := 12) (N := some 94) (v := ?_) (a' := ?_) #[true, true, true, true, true, true, true, true, true, true, true, true, true, true, true, true, false, false, false, true, true, true, false, false, false, false, false] rfl rfl (any_of HT_.out (by kernel_rfl)) (fun _ _ _ h => h) (Or.inl ⟨by rfl, ?_⟩) ?_ ?_
                                        rotate_left
                                        · intro w'
                                          go_simp
                                          with_reducible rfl
                                        rotate_left
                                        · simp only [Act.put, List.setIfInBounds_toArray, List.set_cons_zero, List.set_cons_succ, i64_w, i32_w]
                                          rfl
                                        refine take_ (i := 16) (N := some 98) (v := ?_) (a' := ?_) #[true, true, true, true, true, true, true, true, true, true, true, true, true, true, true, true, true, false, false, true, true, true, false, false, false, false, false] rfl rfl (take_ofW HT_.out HW_.out (by kernel_rfl)) (fun _ _ _ h => h) (Or.inl ⟨by rfl, ?_⟩) hHeld ?_ ?_
                                        rotate_left
                                        · rintro w' ⟨s0, s1, s2, s3⟩
                                          go_simp
                                          with_reducible rfl
                                        rotate_left
                                        · simp only [Act.put, List.setIfInBounds_toArray, List.set_cons_zero, List.set_cons_succ, i64_w, i32_w]
                                          rfl
                                        refine pure_ (i := 17) (N := some 99) (v := ?_) (a' := ?_) #[true, true, true, true, true, true, true, true, true, true, true, true, true, true, true, true, true, true, false, true, true, true, false, false, false, false, false] rfl rfl (any_of HT_.out (by kernel_rfl)) (fun _ _ _ h => h) (Or.inl ⟨by rfl, ?_⟩) ?_ ?_
                                        rotate_left
                                        · intro w'
                                          go_simp
                                          with_reducible rfl
                                        rotate_left
                                        · simp only [Act.put, List.setIfInBounds_toArray, List.set_cons_zero, List.set_cons_succ, i64_w, i32_w]
                                          rfl
                                        refine pure_ (i := 18) (N := some 100) (v := ?_) (a' := ?_) #[true, true, true, true, true, true, true, true, true, true, true, true, true, true, true, true, true, true, true, true, true, true, false, false, false, false, false] rfl rfl (any_of HT_.out (by kernel_rfl)) (fun _ _ _ h => h) (Or.inl ⟨by rfl, ?_⟩) ?_ ?_
                                        rotate_left
                                        · intro w'
                                          go_simp
                                          with_reducible rfl
                                        rotate_left
                                        · simp only [Act.put, List.setIfInBounds_toArray, List.set_cons_zero, List.set_cons_succ, i64_w, i32_w]
                                          rfl
                                        refine take_ (i := 22) (N := some 104) (v := ?_) (a' := ?_) #[true, true, true, true, true, true, true, true, true, true, true, true, true, true, true, true, true, true, true, true, true, true, true, false, false, false, false] rfl rfl (take_ofW HT_.out HW_.out (by kernel_rfl)) (fun _ _ _ h => h) (Or.inl ⟨by rfl, ?_⟩) hHeld ?_ ?_
                                        rotate_left
                                        · rintro w' ⟨s0, s1, s2, s3⟩
                                          go_simp
                                          with_reducible rfl
                                        rotate_left
                                        · simp only [Act.put, List.setIfInBounds_toArray, List.set_cons_zero, List.set_cons_succ, i64_w, i32_w]
                                          rfl
                                        refine pure_ (i := 23) (N := some 105) (v := ?_) (a' := ?_) #[true, true, true, true, true, true, true, true, true, true, true, true, true, true, true, true, true, true, true, true, true, true, true, true, false, false, false] rfl rfl (any_of HT_.out (by kernel_rfl)) (fun _ _ _ h => h) (Or.inl ⟨by rfl, ?_⟩) ?_ ?_
                                        rotate_left
                                        · intro w'
                                          go_simp
                                          with_reducible rfl
                                        rotate_left
                                        · simp only [Act.put, List.setIfInBounds_toArray, List.set_cons_zero, List.set_cons_succ, i64_w, i32_w]
                                          rfl
                                        refine one_ (i := 24) (N := some 106) #[true, true, true, true, true, true, true, true, true, true, true, true, true, true, true, true, true, true, true, true, true, true, true, true, true, false, false] rfl rfl (one_of HT_.out (by kernel_rfl)) (by decide) (fun K hK => ?_)
                                        refine Kd.R_lit_step (Kd.int .u8) _ 5 ?hg (N := 106) ?hd (xs := ([((rd x4_4 x12_5) / 16777216) % 256, ((rd x4_4 x12_5) / 65536) % 256, ((rd x4_4 x12_5) / 256) % 256, (rd x4_4 x12_5) % 256] : List Int)) (inner := [.int .u8 (((rd x4_4 x12_5) / 16777216) % 256), .int .u8 (((rd x4_4 x12_5) / 65536) % 256), .int .u8 (((rd x4_4 x12_5) / 256) % 256), .int .u8 ((rd x4_4 x12_5) % 256)]) (ok := fun _ => True) (okp := fun _ => True) ?hr ?hp (fun _ hk => hk) trivial (Below.refl _ _) (Nat.le_refl _) (by simp) ?_; (case hd => rfl); (case hg => rfl); (case hr => first | (go_simp; done) | (go_simp; rfl)); (case hp => exact (Reps.one (show Kd.M (Kd.int .u8) _ _ _ (((rd x4_4 x12_5) / 16777216) % 256) [.int .u8 (((rd x4_4 x12_5) / 16777216) % 256)] from rfl) (Reps.one (show Kd.M (Kd.int .u8) _ _ _ (((rd x4_4 x12_5) / 65536) % 256) [.int .u8 (((rd x4_4 x12_5) / 65536) % 256)] from rfl) (Reps.one (show Kd.M (Kd.int .u8) _ _ _ (((rd x4_4 x12_5) / 256) % 256) [.int .u8 (((rd x4_4 x12_5) / 256) % 256)] from rfl) (Reps.one (show Kd.M (Kd.int .u8) _ _ _ ((rd x4_4 x12_5) % 256) [.int .u8 ((rd x4_4 x12_5) % 256)] from rfl) (Reps.none _ _))))))
                                        intro v218 w50 ho51 hb hg_ hnew_
                                        have HS0_ := (hb.cell (World.block_lt_of_cell? _ _ (hHeld.1))).trans (hHeld.1)
                                        have HS1_ := (hb.cell (World.block_lt_of_cell? _ _ (hHeld.2.1))).trans (hHeld.2.1)
                                        have HS2_ := (hb.cell (World.block_lt_of_cell? _ _ (hHeld.2.2.1))).trans (hHeld.2.2.1)
                                        have HS3_ := (hb.cell (World.block_lt_of_cell? _ _ (hHeld.2.2.2))).trans (hHeld.2.2.2)
                                        clear hg_ hnew_
                                        (first | rw [← Ny217.out] at ho51 | (simp only [Int.reduceToNat] at ho51; rw [← Ny217.out] at ho51))
                                        have n0_ := Aside0.mk (Kd.R_below (by (with_reducible repeat (first | apply Kd.R_alloc | apply Kd.R_drewN | apply Kd.R_drew | apply FR_alloc | apply FR_drewN | apply FR_drew)); exact HO_4.out) hb)
                                        have n1_ := Aside0.mk (Kd.R_elder' (by (with_reducible repeat (first | apply Kd.R_alloc | apply Kd.R_drewN | apply Kd.R_drew | apply FR_alloc | apply FR_drewN | apply FR_drew)); exact HO_11.out) (Kd.R_base ho51) hb)
                                        have n2_ := Aside0.mk (Kd.R_lower (Kd.R_new' ho51 (Kd.R_lt (by (with_reducible repeat (first | apply Kd.R_alloc | apply Kd.R_drewN | apply Kd.R_drew | apply FR_alloc | apply FR_drewN | apply FR_drew)); exact HO_11.out))) (below_size (by repeat (first | (with_reducible first | exact HB.out | apply below_alloc | apply pw_below_drewN | apply below_drew1) | exact HB.out))))
                                        have n3_ := Aside0.mk (below_step (by repeat (first | (with_reducible first | exact HB.out | apply below_alloc | apply pw_below_drewN | apply below_drew1) | exact HB.out)) hb)
                                        clear HO_4
                                        clear HO_11
                                        clear HB
                                        have HO_4 := n0_
                                        have HO_11 := n1_
                                        have HO219 := n2_
                                        have HB := n3_
                                        clear n0_ n1_ n2_ n3_
                                        clear hb ho51
                                        obtain ⟨Ao53, co53, eo53⟩ := Kd.R_slice HO219.out
                                        (first | subst eo53 | (injection eo53 with f1_ f2_ f3_; have f4_ := f1_.symm; have f5_ := f3_.symm; clear f1_ f2_ f3_; subst f4_; subst f5_))
                                        refine hK.out _ _ ⟨HS0_, HS1_, HS2_, HS3_⟩ (fun hHeld => ?_)
                                        clear hK K
                                        refine norm_ (a' := ?_) ?_ ?_
                                        rotate_left
                                        · show Act.put _ (some 106) _ = _
                                          simp only [Act.put, List.setIfInBounds_toArray, List.set_cons_zero, List.set_cons_succ, i64_w, i32_w]
                                          rfl
                                        refine last_ (i := 25) (N := some 107) #[true, true, true, true, true, true, true, true, true, true, true, true, true, true, true, true, true, true, true, true, true, true, true, true, true, true, false] rfl rfl (one_of HT_.out (by kernel_rfl)) (by decide) (fun K hK => ?_)
                                        refine Kd.R_append_rows_step (Kd.int .u8) (w0 := w) w.heap.size (by rfl) (.tmp 82) (.tmp 106) 32 5 (.int .u8 0) 1 rfl Tryd.underlying32 info5 rfl (by decide) (by omega) u11 x11_5 y217 _ _ _ (fun k_ => some k_ ≠ (.slice Ao53 y217.length co53 : Value).ownBlock) (fun _ => False) rfl rfl ?aO ?aR (fun _ _ h => h) (fun _ h => h.elim) ?aF ?aB ?aS ?aL ?_
                                        (case aR => repeat (first | exact (Kd.R_reads' HO219.out).2.2 | (with_reducible refine Kd.C_alloc ?_ _) | (with_reducible refine Kd.C_drewN ?_ _) | (with_reducible refine Kd.C_drew ?_)))
                                        (case aB => exact (by repeat (first | (with_reducible first | exact HB.out | apply below_alloc | apply pw_below_drewN | apply below_drew1) | exact HB.out)))
                                        (case aF => exact (fun k_ hk => Kd.fresh' (Kd.R_lt (by (with_reducible repeat (first | apply Kd.R_alloc | apply Kd.R_drewN | apply Kd.R_drew | apply FR_alloc | apply FR_drewN | apply FR_drew)); exact HO219.out)) k_ hk))
                                        (case aO => exact (by (with_reducible repeat (first | apply Kd.R_alloc | apply Kd.R_drewN | apply Kd.R_drew | apply FR_alloc | apply FR_drewN | apply FR_drew)); exact Kd.R_mono HO_11.out (fun _ hk => hk.2)))
                                        (case aS => exact (below_size (by repeat (first | (with_reducible first | exact HB.out | apply below_alloc | apply pw_below_drewN | apply below_drew1) | exact HB.out))))
                                        (case aL => have := LMc47.out; omega)
                                        intro v221 w52 ho hb hg hat
                                        rw [← Ny220.out] at ho
                                        have n0_ := Aside0.mk (Kd.R_over' (by (with_reducible repeat (first | apply Kd.R_alloc | apply Kd.R_drewN | apply Kd.R_drew | apply FR_alloc | apply FR_drewN | apply FR_drew)); exact HO_4.out) (Kd.R_typed (by (with_reducible repeat (first | apply Kd.R_alloc | apply Kd.R_drewN | apply Kd.R_drew | apply FR_alloc | apply FR_drewN | apply FR_drew)); exact HO_11.out)) (by decide) hg)
                                        have n1_ := Aside0.mk (Kd.R_after (ok := (fun _ => True)) (by (with_reducible repeat (first | apply Kd.R_alloc | apply Kd.R_drewN | apply Kd.R_drew | apply FR_alloc | apply FR_drewN | apply FR_drew)); exact HO219.out) hg hat)
                                        have n2_ := Aside0.mk (hb)
                                        have n3_ := Aside0.mk (ho)
                                        clear HO_4
                                        clear HO219
                                        clear HB
                                        clear HO_11
                                        have HO_4 := n0_
                                        have HO219 := n1_
                                        have HB := n2_
                                        have HO222 := n3_
                                        clear n0_ n1_ n2_ n3_
                                        clear ho hb hg hat
                                        refine hK.out _ _ ?_
                                        clear hK K
                                        refine norm_ (a' := ?_) ?_ ?_
                                        rotate_left
                                        · show Act.put _ (some 107) _ = _
                                          simp only [Act.put, List.setIfInBounds_toArray, List.set_cons_zero, List.set_cons_succ, i64_w, i32_w]
                                          rfl
                                        refine pure_ (i := 26) (N := some 11) (v := ?_) (a' := ?_) #[true, true, true, true, true, true, true, true, true, true, true, true, true, true, true, true, true, true, true, true, true, true, true, true, true, true, true] rfl rfl (any_of HT_.out (by kernel_rfl)) (fun _ _ _ h => h) (Or.inl ⟨by rfl, ?_⟩) ?_ ?_
                                        rotate_left
                                        · intro w'
                                          go_simp
                                          with_reducible rfl
                                        rotate_left
                                        · simp only [Act.put, List.setIfInBounds_toArray, List.set_cons_zero, List.set_cons_succ, i64_w, i32_w]
                                          rfl
                                        refine done_ (done_of HT_.out (by kernel_rfl)) ?_
                                        try go_wp2
                                        go_roundg k5
                                        case measure => have := HK1.out; have := HK2.out; have := HK3.out; have := HK4.out; have := HK5.out; omega
                                        case rel => exact ⟨(y220), (wrap64 (x12_5 + 1)), (by first | rfl | (simp; done) | (simp [*]; done) | (simp [bne_nil_]; done)), H', ⟨by have := HK1.out; have := HK2.out; have := HK3.out; have := HK4.out; have := HK5.out; omega⟩, ⟨by (with_reducible repeat (first | apply Kd.R_alloc | apply Kd.R_drewN | apply Kd.R_drew | apply FR_alloc | apply FR_drewN | apply FR_drew)); exact HO_4.out⟩, ⟨by (with_reducible repeat (first | apply Kd.R_alloc | apply Kd.R_drewN | apply Kd.R_drew | apply FR_alloc | apply FR_drewN | apply FR_drew)); exact Kd.R_mono HO222.out (fun _ hk => trivial)⟩, ⟨by repeat (first | (with_reducible first | exact HB.out | apply below_alloc | apply pw_below_drewN | apply below_drew1) | exact HB.out)⟩⟩
                                      · rw [if_neg c47] at H
                                        exact absurd H (by simp)
                                    · rw [if_neg c46] at H
                                      exact absurd H (by simp)
                                  · rw [if_neg c45] at H
                                    exact absurd H (by simp)
                                · rw [if_neg c44] at H
                                  have c44b0 : decide (x12_5 < 8) = false := decide_eq_false c44
                                  clear c44
                                  obtain rfl := Option.some.inj H
                                  have hcv54 := own_string (P := Tryd.prog) Tryd.underlying32 Tryd.underlying5 Tryd.underlying9 (Kd.own_of_R HO_11.out)
                                  go_wp2
                                  go_ret
                                  exact ⟨by first | rfl | (simp [errW_none, errW_some] <;> rfl) | (simp [*, errW_none, errW_some] <;> rfl), by repeat (first | (with_reducible first | exact HB.out | apply below_alloc | apply pw_below_drewN | apply below_drew1) | exact HB.out)⟩
              · rw [if_neg c25] at H
                have c25b0 : (((x7_2.length : Int) % 64) == 56) = false := beq_eq_false_iff_ne.mpr c25
                have c25b1 : (((x7_2.length : Int) % 64) != 56) = true := bne_iff_ne.mpr c25
                by_cases c55 : x7_2.length < 140737488355328
                · rw [if_pos c55] at H
                  have LMc55 := Aside0.mk c55
                  clear c55
                  obtain ⟨y200, hy200⟩ : ∃ y_ : List Int, y_ = (x7_2 ++ [0]) := ⟨_, rfl⟩
                  replace H : (hopperref24_Sum.l1 k2 a0 x4_1 x5_1 y200) = some r := by first | (rw [hy200]; with_reducible exact H) | (have H2_ := (Option.bind_some _ _).symm.trans H; rw [hy200]; with_reducible exact H2_) | (have H2_ := (Option.bind_some _ _).symm.trans H; with_reducible exact H2_) | with_reducible exact H | (rw [hy200]; exact H) | exact H
                  have Ny200 := Aside0.mk hy200
                  clear hy200
                  have H' := Aside0.mk H
                  clear H
                  obtain ⟨Ao56, co56, eo56⟩ := FR_slice HO_7.out
                  subst eo56
                  go_wp2_with (first | ((with_reducible refine gate_builtin (b := .append) (xs := #[.tmp 44, .tmp 45]) rfl ?_); at_builtin; refine FR_append (w0 := w) w.heap.size rfl (.tmp 44) (.tmp 45) 32 rfl Tryd.underlying32 (.slice Ao56 x7_2.length co56) x7_2 0 rfl rfl ?aO ?aB ?aS ?aL ?_; (case aB => exact (by repeat (first | (with_reducible first | exact HB.out | apply below_alloc | apply pw_below_drewN | apply below_drew1) | exact HB.out))); (case aO => exact (by (with_reducible repeat (first | apply Kd.R_alloc | apply Kd.R_drewN | apply Kd.R_drew | apply FR_alloc | apply FR_drewN | apply FR_drew)); exact HO_7.out)); (case aS => exact (below_size (by repeat (first | (with_reducible first | exact HB.out | apply below_alloc | apply pw_below_drewN | apply below_drew1) | exact HB.out)))); (case aL => have := LMc55.out; omega); intro v201 w57 ho hb hg hat; rw [← Ny200.out] at ho; have n0_ := Aside0.mk (R_overF (by (with_reducible repeat (first | apply Kd.R_alloc | apply Kd.R_drewN | apply Kd.R_drew | apply FR_alloc | apply FR_drewN | apply FR_drew)); exact HO_4.out) (by (with_reducible repeat (first | apply Kd.R_alloc | apply Kd.R_drewN | apply Kd.R_drew | apply FR_alloc | apply FR_drewN | apply FR_drew)); exact HO_7.out) (by decide) hg); have n1_ := Aside0.mk (R_overF (by (with_reducible repeat (first | apply Kd.R_alloc | apply Kd.R_drewN | apply Kd.R_drew | apply FR_alloc | apply FR_drewN | apply FR_drew)); exact HO_5.out) (by (with_reducible repeat (first | apply Kd.R_alloc | apply Kd.R_drewN | apply Kd.R_drew | apply FR_alloc | apply FR_drewN | apply FR_drew)); exact HO_7.out) (by decide) hg); have n2_ := Aside0.mk (hb); have n3_ := Aside0.mk (ho); clear HO_4; clear HO_5; clear HB; clear HO_7; have HO_4 := n0_; have HO_5 := n1_; have HB := n2_; have HO202 := n3_; clear n0_ n1_ n2_ n3_; clear ho hb hg hat))
                  go_roundg k2
                  case measure => have := HK1.out; have := HK2.out; omega
                  case rel => exact ⟨(y200), H', ⟨by have := HK1.out; have := HK2.out; omega⟩, ⟨by (with_reducible repeat (first | apply Kd.R_alloc | apply Kd.R_drewN | apply Kd.R_drew | apply FR_alloc | apply FR_drewN | apply FR_drew)); exact HO_4.out⟩, ⟨by (with_reducible repeat (first | apply Kd.R_alloc | apply Kd.R_drewN | apply Kd.R_drew | apply FR_alloc | apply FR_drewN | apply FR_drew)); exact HO_5.out⟩, ⟨by (with_reducible repeat (first | apply Kd.R_alloc | apply Kd.R_drewN | apply Kd.R_drew | apply FR_alloc | apply FR_drewN | apply FR_drew)); exact HO202.out⟩, ⟨by repeat (first | (with_reducible first | exact HB.out | apply below_alloc | apply pw_below_drewN | apply below_drew1) | exact HB.out)⟩⟩
                · rw [if_neg c55] at H
                  exact absurd H (by simp)
        · rw [if_neg c21] at H
          exact absurd H (by simp)

end Go.Proofs.YtdnmllodefbekaaDoor.HShaSums
end

section
/- The document's HMAC: what it computes, and that it does. Written by a program of this session (wip/tools/handprint.py) out of the translation. -/
namespace Go.Proofs.YtdnmllodefbekaaDoor.HShaSums
open Go.RowKit Go.Proofs.YtdnmllodefbekaaDoorW.PrintWords Go.Proofs.YtdnmllodefbekaaDoorW.PrintLast Go.Proofs.YtdnmllodefbekaaDoorW.PrintMore
attribute [local go_sem] max2_int min2_int max_two min_two max_three min_three max_four min_four   -- for this text's walks alone
set_option linter.unusedVariables false
set_option linter.unusedSimpArgs false

/-! ### hopperref24_Mac: function 16 -/
def hopperref24_Mac.j0 : Nat → ByteArray → ByteArray → Option (ByteArray)
  | 0, _, _ => none
  | k + 1, x0, x1 => (hopperref24_pad.f k x0 92).bind fun t232 => ((hopperref24_pad.f k x0 54).bind fun t233 => (if t233.size + x1.size ≤ 9223372036854775807 then ((hopperref24_Sum.f k (t233 ++ x1)).bind fun t234 => (if t232.size + t234.size ≤ 9223372036854775807 then ((hopperref24_Sum.f k (t232 ++ t234)).bind fun t235 => (some t235)) else (none))) else (none)))
def hopperref24_Mac.f (k : Nat) (a0 : ByteArray) (a1 : ByteArray) : Option (ByteArray) := if (a0.size : Int) > 64 then ((hopperref24_Sum.f k a0).bind fun t231 => (hopperref24_Mac.j0 k t231 a1)) else (hopperref24_Mac.j0 k a0 a1)
theorem hopperref24_Mac.mono_l : ∀ k, (∀ y0 y1, LeO (hopperref24_Mac.j0 k y0 y1) (hopperref24_Mac.j0 (k + 1) y0 y1))
  | 0 => fun _ _ r h => by simp [hopperref24_Mac.j0] at h
  | k + 1 => by
    have ih0 := hopperref24_Mac.mono_l k
    · intro y0 y1
      unfold hopperref24_Mac.j0
      repeat' first
      | (with_reducible exact ih0 _ _)
      | (with_reducible exact hopperref24_Sum.mono _ _)
      | (with_reducible exact hopperref24_pad.mono _ _ _)
      | (with_reducible exact LeO.refl _)
      | (with_reducible exact LeO.none _)
      | (with_reducible refine LeO.ite ?_ ?_)
      | (with_reducible refine LeO.bind ?_ (fun _ => ?_))
      | exact ih0 _ _
      | exact hopperref24_Sum.mono _ _
      | exact hopperref24_pad.mono _ _ _
      | exact LeO.none _
      | refine LeO.ite ?_ ?_
      | refine LeO.bind ?_ (fun _ => ?_)
theorem hopperref24_Mac.mono : ∀ a0 a1 k, LeO (hopperref24_Mac.f k a0 a1) (hopperref24_Mac.f (k + 1) a0 a1) := by
  intro a0 a1 k
  have ih0 := hopperref24_Mac.mono_l k
  unfold hopperref24_Mac.f
  repeat' first
      | (with_reducible exact ih0 _ _)
      | (with_reducible exact hopperref24_Sum.mono _ _)
      | (with_reducible exact hopperref24_pad.mono _ _ _)
      | (with_reducible exact LeO.refl _)
      | (with_reducible exact LeO.none _)
      | (with_reducible refine LeO.ite ?_ ?_)
      | (with_reducible refine LeO.bind ?_ (fun _ => ?_))
      | exact ih0 _ _
      | exact hopperref24_Sum.mono _ _
      | exact hopperref24_pad.mono _ _ _
      | exact LeO.none _
      | refine LeO.ite ?_ ?_
      | refine LeO.bind ?_ (fun _ => ?_)
set_option maxHeartbeats 8000000 in
set_option maxRecDepth 100000 in
theorem hopperref24_Mac.calls (k : Nat) (a0 : ByteArray) (a1 : ByteArray) (r : ByteArray) (w : World) (h : hopperref24_Mac.f k a0 a1 = some r) :
    Calls Tryd.prog 16 #[.string a0, .string a1] w fun e w' => e = .returned (.string r) ∧ Below w.heap.size w w' := by
  have HB := Aside0.mk (Below.refl w.heap.size w)
  have H : (if (a0.size : Int) > 64 then ((hopperref24_Sum.f k a0).bind fun t231 => (hopperref24_Mac.j0 k t231 a1)) else (hopperref24_Mac.j0 k a0 a1)) = some r := h
  clear h
  have HC3 := Aside0.mk H
  clear H
  go_enter Tryd.func16, Tryd.ntmps16
  go_upto_if 7 with (fail)
  go_cut [0] (fun v0 wc => ∃ (kq : Nat) (x0_2 : ByteArray), v0 = .string x0_2 ∧ Aside0 (hopperref24_Mac.j0 kq x0_2 a1 = some r) ∧ Aside0 (kq ≤ k) ∧ Aside0 (Below w.heap.size w wc))
  case first =>
    have H := HC3.out
    clear HC3
    by_cases c4 : (a0.size : Int) > 64
    · rw [if_pos c4] at H
      have c4b0 : decide (64 < (a0.size : Int)) = true := decide_eq_true c4
      have c4b1 : decide (64 < a0.size) = true := decide_eq_true (by omega)
      clear c4
      (first | rw [c4b0] | (simp only [i64_w, i32_w]; rw [c4b0]) | skip)
      replace H := Option.bind_eq_some_iff.mp H
      obtain ⟨t231, A50, H⟩ := H
      replace H : (hopperref24_Mac.j0 k t231 a1) = some r := H
      have A5 := Aside0.mk A50
      clear A50
      have H' := Aside0.mk H
      clear H
      go_wp2_with (first | ((with_reducible refine gate_callee (f := 14) rfl ?_); refine goesL_ (some 9) rfl rfl Tryd.func14 (by kernel_rfl) rfl #[.string a0] rfl (by (try simp only [List.map_toArray, List.map_cons, List.map_nil]); first | done | rfl | (simp only [List.length_drop, List.length_take]; rfl)) ?_; (with_reducible refine (hopperref24_Sum.calls k a0 t231 _ A5.out).mono ?_); rintro e w6 ⟨rfl, hb⟩; refine ⟨_, rfl, ?_⟩; have n0_ := Aside0.mk (below_step (by repeat (first | (with_reducible first | exact HB.out | apply below_alloc | apply pw_below_drewN | apply below_drew1) | exact HB.out)) hb); clear HB; have HB := n0_; clear n0_; (try clear hb); (try clear hb2); (try clear hk); (try clear hi)))
      go_meet
      case rel => exact ⟨_, (t231), (by first | rfl | (simp; done) | (simp [*]; done) | (simp [bne_nil_]; done)), H', ⟨by first | omega | exact Nat.le_refl _⟩, ⟨by repeat (first | (with_reducible first | exact HB.out | apply below_alloc | apply pw_below_drewN | apply below_drew1) | exact HB.out)⟩⟩
    · rw [if_neg c4] at H
      have c4b0 : decide (64 < (a0.size : Int)) = false := decide_eq_false c4
      have c4b1 : decide (64 < a0.size) = false := decide_eq_false (by omega)
      clear c4
      (first | rw [c4b0] | (simp only [i64_w, i32_w]; rw [c4b0]) | skip)
      have H' := Aside0.mk H
      clear H
      go_wp2
      go_meet
      case rel => exact ⟨_, (a0), (by first | rfl | (simp; done) | (simp [*]; done) | (simp [bne_nil_]; done)), H', ⟨by first | omega | exact Nat.le_refl _⟩, ⟨by repeat (first | (with_reducible first | exact HB.out | apply below_alloc | apply pw_below_drewN | apply below_drew1) | exact HB.out)⟩⟩
  case rest =>
    clear HC3
    try clear c1
    try clear p2
    try clear c4
    try clear c4b0
    try clear c4b1
    obtain ⟨kq, x0_2, rfl, HA, HJ2, HB⟩ := hcut
    cases kq with
    | zero => exact absurd HA.out (by simp [hopperref24_Mac.j0])
    | succ kj2 =>
      have H := HA.out
      clear HA
      simp only [hopperref24_Mac.j0] at H
      replace H := Option.bind_eq_some_iff.mp H
      obtain ⟨t232, A70, H⟩ := H
      replace H : ((hopperref24_pad.f kj2 x0_2 54).bind fun t233 => (if t233.size + a1.size ≤ 9223372036854775807 then ((hopperref24_Sum.f kj2 (t233 ++ a1)).bind fun t234 => (if t232.size + t234.size ≤ 9223372036854775807 then ((hopperref24_Sum.f kj2 (t232 ++ t234)).bind fun t235 => (some t235)) else (none))) else (none))) = some r := H
      have A7 := Aside0.mk A70
      clear A70
      replace H := Option.bind_eq_some_iff.mp H
      obtain ⟨t233, A80, H⟩ := H
      replace H : (if t233.size + a1.size ≤ 9223372036854775807 then ((hopperref24_Sum.f kj2 (t233 ++ a1)).bind fun t234 => (if t232.size + t234.size ≤ 9223372036854775807 then ((hopperref24_Sum.f kj2 (t232 ++ t234)).bind fun t235 => (some t235)) else (none))) else (none)) = some r := H
      have A8 := Aside0.mk A80
      clear A80
      by_cases c9 : t233.size + a1.size ≤ 9223372036854775807
      · rw [if_pos c9] at H
        have c9b0 := eq_true c9
        have c9b1 : decide (t233.size + a1.size ≤ 9223372036854775807) = true := decide_eq_true c9
        try have c9b2 : (9223372036854775807 < t233.size + a1.size) = False := eq_false (Nat.not_lt.2 c9)
        replace H := Option.bind_eq_some_iff.mp H
        obtain ⟨t234, A100, H⟩ := H
        replace H : (if t232.size + t234.size ≤ 9223372036854775807 then ((hopperref24_Sum.f kj2 (t232 ++ t234)).bind fun t235 => (some t235)) else (none)) = some r := H
        have A10 := Aside0.mk A100
        clear A100
        by_cases c11 : t232.size + t234.size ≤ 9223372036854775807
        · rw [if_pos c11] at H
          have c11b0 := eq_true c11
          have c11b1 : decide (t232.size + t234.size ≤ 9223372036854775807) = true := decide_eq_true c11
          try have c11b2 : (9223372036854775807 < t232.size + t234.size) = False := eq_false (Nat.not_lt.2 c11)
          replace H := Option.bind_eq_some_iff.mp H
          obtain ⟨t235, A120, H⟩ := H
          replace H : (some t235) = some r := H
          have A12 := Aside0.mk A120
          clear A120
          obtain rfl := Option.some.inj H
          go_wp2_with (first | ((with_reducible refine gate_callee (f := 45) rfl ?_); refine goesL_ (some 11) rfl rfl Tryd.func45 (by kernel_rfl) rfl #[.string x0_2, .int .u8 92] rfl (by (try simp only [List.map_toArray, List.map_cons, List.map_nil]); first | done | rfl | (simp only [List.length_drop, List.length_take]; rfl)) ?_; (with_reducible refine (hopperref24_pad.calls kj2 x0_2 92 t232 _ A7.out).mono ?_); rintro e w13 ⟨rfl, hb⟩; refine ⟨_, rfl, ?_⟩; have n0_ := Aside0.mk (below_step (by repeat (first | (with_reducible first | exact HB.out | apply below_alloc | apply pw_below_drewN | apply below_drew1) | exact HB.out)) hb); clear HB; have HB := n0_; clear n0_; (try clear hb); (try clear hb2); (try clear hk); (try clear hi)) | ((with_reducible refine gate_callee (f := 45) rfl ?_); refine goesL_ (some 13) rfl rfl Tryd.func45 (by kernel_rfl) rfl #[.string x0_2, .int .u8 54] rfl (by (try simp only [List.map_toArray, List.map_cons, List.map_nil]); first | done | rfl | (simp only [List.length_drop, List.length_take]; rfl)) ?_; (with_reducible refine (hopperref24_pad.calls kj2 x0_2 54 t233 _ A8.out).mono ?_); rintro e w14 ⟨rfl, hb⟩; refine ⟨_, rfl, ?_⟩; have n0_ := Aside0.mk (below_step (by repeat (first | (with_reducible first | exact HB.out | apply below_alloc | apply pw_below_drewN | apply below_drew1) | exact HB.out)) hb); clear HB; have HB := n0_; clear n0_; (try clear hb); (try clear hb2); (try clear hk); (try clear hi)) | ((with_reducible refine gate_callee (f := 14) rfl ?_); refine goesL_ (some 16) rfl rfl Tryd.func14 (by kernel_rfl) rfl #[.string (t233 ++ a1)] rfl (by (try simp only [List.map_toArray, List.map_cons, List.map_nil]); first | done | rfl | (simp only [List.length_drop, List.length_take]; rfl)) ?_; (with_reducible refine (hopperref24_Sum.calls kj2 (t233 ++ a1) t234 _ A10.out).mono ?_); rintro e w15 ⟨rfl, hb⟩; refine ⟨_, rfl, ?_⟩; have n0_ := Aside0.mk (below_step (by repeat (first | (with_reducible first | exact HB.out | apply below_alloc | apply pw_below_drewN | apply below_drew1) | exact HB.out)) hb); clear HB; have HB := n0_; clear n0_; (try clear hb); (try clear hb2); (try clear hk); (try clear hi)) | ((with_reducible refine gate_callee (f := 14) rfl ?_); refine goesL_ (some 18) rfl rfl Tryd.func14 (by kernel_rfl) rfl #[.string (t232 ++ t234)] rfl (by (try simp only [List.map_toArray, List.map_cons, List.map_nil]); first | done | rfl | (simp only [List.length_drop, List.length_take]; rfl)) ?_; (with_reducible refine (hopperref24_Sum.calls kj2 (t232 ++ t234) t235 _ A12.out).mono ?_); rintro e w16 ⟨rfl, hb⟩; refine ⟨_, rfl, ?_⟩; have n0_ := Aside0.mk (below_step (by repeat (first | (with_reducible first | exact HB.out | apply below_alloc | apply pw_below_drewN | apply below_drew1) | exact HB.out)) hb); clear HB; have HB := n0_; clear n0_; (try clear hb); (try clear hb2); (try clear hk); (try clear hi)))
          go_ret
          exact ⟨by first | rfl | (simp [errW_none, errW_some] <;> rfl) | (simp [*, errW_none, errW_some] <;> rfl), by repeat (first | (with_reducible first | exact HB.out | apply below_alloc | apply pw_below_drewN | apply below_drew1) | exact HB.out)⟩
        · rw [if_neg c11] at H
          exact absurd H (by simp)
      · rw [if_neg c9] at H
        exact absurd H (by simp)

end Go.Proofs.YtdnmllodefbekaaDoor.HShaSums
end

section
namespace Go.Proofs.YtdnmllodefbekaaDoor.Sha
open Go.RowKit Go.Lib Go.Proofs.YtdnmllodefbekaaDoorW.PrintWords Go.Proofs.YtdnmllodefbekaaDoorW.PrintLast Go.Proofs.YtdnmllodefbekaaDoorW.PrintMore
open Go.Proofs.YtdnmllodefbekaaDoor.HShaSums
set_option linter.unusedVariables false
set_option linter.unusedSimpArgs false
theorem or_comm32 (a b : Int) : Go.bits .or .u32 a b = Go.bits .or .u32 b a := by
  unfold Go.bits
  simp only
  rw [BitVec.or_comm]
theorem turn_eq (x n m a b : Int) (h1 : 0 ≤ n) (h2 : IntKind.u64.wrap (32 - n) = m) (h3 : 0 ≤ m) (ha : (2 : Int) ^ min m.toNat IntKind.u32.bits = a) (hb : (2 : Int) ^ min n.toNat IntKind.u32.bits = b) : hopperref24_turn.f x n = some (ror a b x) := by
  unfold hopperref24_turn.f
  rw [if_pos h1, h2, if_pos h3]
  unfold shr shl ror
  rw [ha, hb, or_comm32, IntKind.wrap_u32]
theorem t2 (x : Int) : hopperref24_turn.f x 2 = some (ror 1073741824 4 x) := turn_eq x 2 30 _ _ (by decide) (by decide) (by decide) (by decide) (by decide)
theorem t6 (x : Int) : hopperref24_turn.f x 6 = some (ror 67108864 64 x) := turn_eq x 6 26 _ _ (by decide) (by decide) (by decide) (by decide) (by decide)
theorem t7 (x : Int) : hopperref24_turn.f x 7 = some (ror 33554432 128 x) := turn_eq x 7 25 _ _ (by decide) (by decide) (by decide) (by decide) (by decide)
theorem t11 (x : Int) : hopperref24_turn.f x 11 = some (ror 2097152 2048 x) := turn_eq x 11 21 _ _ (by decide) (by decide) (by decide) (by decide) (by decide)
theorem t13 (x : Int) : hopperref24_turn.f x 13 = some (ror 524288 8192 x) := turn_eq x 13 19 _ _ (by decide) (by decide) (by decide) (by decide) (by decide)
theorem t17 (x : Int) : hopperref24_turn.f x 17 = some (ror 32768 131072 x) := turn_eq x 17 15 _ _ (by decide) (by decide) (by decide) (by decide) (by decide)
theorem t18 (x : Int) : hopperref24_turn.f x 18 = some (ror 16384 262144 x) := turn_eq x 18 14 _ _ (by decide) (by decide) (by decide) (by decide) (by decide)
theorem t19 (x : Int) : hopperref24_turn.f x 19 = some (ror 8192 524288 x) := turn_eq x 19 13 _ _ (by decide) (by decide) (by decide) (by decide) (by decide)
theorem t22 (x : Int) : hopperref24_turn.f x 22 = some (ror 1024 4194304 x) := turn_eq x 22 10 _ _ (by decide) (by decide) (by decide) (by decide) (by decide)
theorem t25 (x : Int) : hopperref24_turn.f x 25 = some (ror 128 33554432 x) := turn_eq x 25 7 _ _ (by decide) (by decide) (by decide) (by decide) (by decide)
/-- The schedule as it stands behind t words. -/
def Zt (bs : List Int) (t : Nat) : List Int := sched bs t ++ List.replicate (64 - t) 0
theorem Zt_len (bs : List Int) (t : Nat) (h : t ≤ 64) : (Zt bs t).length = 64 := by unfold Zt; rw [List.length_append, sched_len, List.length_replicate]; omega
theorem Zt_rd (bs : List Int) (t i : Nat) (h : i < t) : rd (Zt bs t) (i : Int) = rd (sched bs t) (i : Int) := by
  unfold Zt rd
  rw [List.getD_eq_getElem?_getD, List.getD_eq_getElem?_getD, Int.toNat_natCast, List.getElem?_append_left (by rw [sched_len]; exact h)]
theorem Zt_set (bs : List Int) (t : Nat) (h : t < 64) (x : Int) (hx : sched bs (t + 1) = sched bs t ++ [x]) : (Zt bs t).set t x = Zt bs (t + 1) := by
  unfold Zt
  rw [hx, List.set_append, if_neg (by rw [sched_len]; omega), sched_len, Nat.sub_self, show 64 - t = (64 - (t + 1)) + 1 by omega, List.replicate_succ, List.set_cons_zero, List.append_assoc]
  rfl
theorem w64 (x : Int) (h0 : -9223372036854775808 ≤ x) (h1 : x ≤ 9223372036854775807) : wrap64 x = x := by unfold wrap64; omega
theorem bl0 (st ks bs : List Int) (hb : bs.length = 64) : ∀ (d t K : Nat), t + d = 16 → hopperref24_block.l0 (K + 1 + d) st ks bs (Zt bs t) (t : Int) = hopperref24_block.l1 K st ks (Zt bs 16) 16
  | 0, t, K, h => by
    obtain rfl : t = 16 := by omega
    show hopperref24_block.l0 (K + 1) _ _ _ _ _ = _
    rw [hopperref24_block.l0, if_neg (by decide)]
  | d + 1, t, K, h => by
    show hopperref24_block.l0 (K + 1 + d + 1) _ _ _ _ _ = _
    have e0 : wrap64 (4 * (t : Int)) = ((4 * t : Nat) : Int) := by rw [w64 _ (by omega) (by omega)]; omega
    have e1 : wrap64 (((4 * t : Nat) : Int) + 1) = ((4 * t + 1 : Nat) : Int) := by rw [w64 _ (by omega) (by omega)]; omega
    have e2 : wrap64 (((4 * t : Nat) : Int) + 2) = ((4 * t + 2 : Nat) : Int) := by rw [w64 _ (by omega) (by omega)]; omega
    have e3 : wrap64 (((4 * t : Nat) : Int) + 3) = ((4 * t + 3 : Nat) : Int) := by rw [w64 _ (by omega) (by omega)]; omega
    have e4 : wrap64 ((t : Int) + 1) = ((t + 1 : Nat) : Int) := by rw [w64 _ (by omega) (by omega)]; omega
    have hz := Zt_len bs t (by omega)
    rw [hopperref24_block.l0, e0, e1, e2, e3, e4, if_pos (by omega), if_pos (by omega), if_pos (by omega), if_pos (by omega), if_pos (by omega), if_pos (by omega), if_pos (by omega), if_pos (by omega), if_pos (by omega), if_pos (by omega), if_pos (by omega), Int.toNat_natCast]
    have := Zt_set bs t (by omega) (be4 (rd bs (4 * t : Nat)) (rd bs (4 * t + 1 : Nat)) (rd bs (4 * t + 2 : Nat)) (rd bs (4 * t + 3 : Nat))) (by rw [sched, if_pos (by omega)])
    unfold be4 at this
    rw [this]
    exact bl0 st ks bs hb d (t + 1) K (by omega)
end Go.Proofs.YtdnmllodefbekaaDoor.Sha
end

section
namespace Go.Proofs.YtdnmllodefbekaaDoor.Sha
open Go.RowKit Go.Lib Go.Proofs.YtdnmllodefbekaaDoorW.PrintWords Go.Proofs.YtdnmllodefbekaaDoorW.PrintLast Go.Proofs.YtdnmllodefbekaaDoorW.PrintMore
open Go.Proofs.YtdnmllodefbekaaDoor.HShaSums
set_option linter.unusedVariables false
set_option linter.unusedSimpArgs false

theorem wsub (t k : Nat) (h : k ≤ t) (h2 : t ≤ 1000) : wrap64 ((t : Int) - (k : Int)) = ((t - k : Nat) : Int) := by rw [w64 _ (by omega) (by omega)]; omega
theorem wadd (t : Nat) (h2 : t ≤ 1000) : wrap64 ((t : Int) + 1) = ((t + 1 : Nat) : Int) := by rw [w64 _ (by omega) (by omega)]; omega
theorem bl1_step (st ks ws : List Int) (t K : Nat) (h1 : 16 ≤ t) (h2 : t < 64) (hz : ws.length = 64) : hopperref24_block.l1 (K + 1) st ks ws (t : Int) = hopperref24_block.l1 K st ks (ws.set t (nxt ws t)) ((t + 1 : Nat) : Int) := by
  have c0 : (t : Int) < 64 := by omega
  have c1 : (0 : Int) ≤ ((t - 15 : Nat) : Int) := by omega
  have c2 : ((t - 15 : Nat) : Int) < (ws.length : Int) := by omega
  have c3 : (0 : Int) ≤ ((t - 2 : Nat) : Int) := by omega
  have c4 : ((t - 2 : Nat) : Int) < (ws.length : Int) := by omega
  have c5 : (0 : Int) ≤ ((t - 7 : Nat) : Int) := by omega
  have c6 : ((t - 7 : Nat) : Int) < (ws.length : Int) := by omega
  have c7 : (0 : Int) ≤ ((t - 16 : Nat) : Int) := by omega
  have c8 : ((t - 16 : Nat) : Int) < (ws.length : Int) := by omega
  have c9 : (0 : Int) ≤ (t : Int) := by omega
  have c10 : (t : Int) < (ws.length : Int) := by omega
  have e0 := wsub t 15 (by omega) (by omega)
  have e1 := wsub t 2 (by clear e0; omega) (by clear e0; omega)
  have e2 := wsub t 7 (by clear e0 e1; omega) (by clear e0 e1; omega)
  have e3 := wsub t 16 (by clear e0 e1 e2; omega) (by clear e0 e1 e2; omega)
  have e4 := wadd t (by clear e0 e1 e2 e3; omega)
  rw [hopperref24_block.l1]
  unfold nxt smaW smaV
  simp only [Int.cast_ofNat_Int] at e0 e1 e2 e3
  simp only [e0, e1, e2, e3, e4, c0, c1, c2, c3, c4, c5, c6, c7, c8, c9, c10, if_true, t7, t18, t17, t19, Option.bind_some, Int.toNat_natCast]
theorem bl1 (st ks bs : List Int) (hs : st.length = 8) : ∀ (d t K : Nat), 16 ≤ t → t + d = 64 → hopperref24_block.l1 (K + 1 + d) st ks (Zt bs t) (t : Int) = hopperref24_block.l2 K st ks (Zt bs 64) st 0
  | 0, t, K, h1, h => by
    obtain rfl : t = 64 := by omega
    show hopperref24_block.l1 (K + 1) _ _ _ _ = _
    have hl : ([] : List Int).length + st.length < 35184372088832 := by rw [hs]; decide
    rw [hopperref24_block.l1, if_neg (show ¬ ((64 : Nat) : Int) < 64 by omega), Option.bind_some, if_pos hl, List.nil_append]
  | d + 1, t, K, h1, h => by
    show hopperref24_block.l1 (K + 1 + d + 1) _ _ _ _ = _
    rw [bl1_step st ks _ t (K + 1 + d) h1 (by omega) (Zt_len bs t (by omega))]
    have hx : sched bs (t + 1) = sched bs t ++ [nxt (sched bs t) t] := by rw [sched, if_neg (by omega)]
    have hn : nxt (Zt bs t) t = nxt (sched bs t) t := by
      unfold nxt
      rw [Zt_rd bs t _ (by omega), Zt_rd bs t _ (by omega), Zt_rd bs t _ (by omega), Zt_rd bs t _ (by omega)]
    rw [hn, Zt_set bs t (by omega) _ hx]
    exact bl1 st ks bs hs d (t + 1) K (by omega) (by omega)
/-- One round of the 64. -/
theorem bl2_step (st ks ws v : List Int) (t K : Nat) (h2 : t < 64) (hz : ws.length = 64) (hk : ks.length = 64) (hv : v.length = 8) : hopperref24_block.l2 (K + 1) st ks ws v (t : Int) = hopperref24_block.l2 K st ks ws (rnd (rd ks t) (rd ws t) v) ((t + 1 : Nat) : Int) := by
  obtain ⟨a, b, c, d, e, f, g, h, rfl⟩ := eight v hv
  have c0 : (t : Int) < 64 := by omega
  have c1 : (0 : Int) ≤ (t : Int) := by omega
  have c2 : (t : Int) < (ks.length : Int) := by omega
  have c3 : (t : Int) < (ws.length : Int) := by omega
  have e4 := wadd t (by omega)
  have r0 : rd [a, b, c, d, e, f, g, h] 0 = a := rfl
  have r1 : rd [a, b, c, d, e, f, g, h] 1 = b := rfl
  have r2 : rd [a, b, c, d, e, f, g, h] 2 = c := rfl
  have r3 : rd [a, b, c, d, e, f, g, h] 3 = d := rfl
  have r4 : rd [a, b, c, d, e, f, g, h] 4 = e := rfl
  have r5 : rd [a, b, c, d, e, f, g, h] 5 = f := rfl
  have r6 : rd [a, b, c, d, e, f, g, h] 6 = g := rfl
  have r7 : rd [a, b, c, d, e, f, g, h] 7 = h := rfl
  have l8 : (([a, b, c, d, e, f, g, h] : List Int).length : Int) = 8 := rfl
  rw [hopperref24_block.l2]
  simp only [e4, c0, c1, c2, c3, l8, r0, r1, r2, r3, r4, r5, r6, r7, if_true, t6, t11, t25, t2, t13, t22, Option.bind_some, show (0 : Int) < 8 by decide, show (4 : Int) < 8 by decide, show (7 : Int) < 8 by decide, show (5 : Int) < 8 by decide, show (6 : Int) < 8 by decide, show (1 : Int) < 8 by decide, show (2 : Int) < 8 by decide, show (3 : Int) < 8 by decide, rnd, tx, ty, bigE, bigA, ch, mj, Int.emod_add_emod, Int.add_emod_emod]
end Go.Proofs.YtdnmllodefbekaaDoor.Sha
end

section
namespace Go.Proofs.YtdnmllodefbekaaDoor.Sha
open Go.RowKit Go.Lib Go.Proofs.YtdnmllodefbekaaDoorW.PrintWords Go.Proofs.YtdnmllodefbekaaDoorW.PrintLast Go.Proofs.YtdnmllodefbekaaDoorW.PrintMore
open Go.Proofs.YtdnmllodefbekaaDoor.HShaSums
set_option linter.unusedVariables false
set_option linter.unusedSimpArgs false


theorem sched64 (bs : List Int) : Zt bs 64 = sched bs 64 := by unfold Zt; rw [Nat.sub_self]; simp
theorem bl2 (st ks ws v0 : List Int) (hz : ws.length = 64) (hk : ks.length = 64) (hs : st.length = 8) (hks : ks = KS) : ∀ (d t K : Nat), t + d = 64 → hopperref24_block.l2 (K + 1 + d) st ks ws (rounds ws st t) (t : Int) = hopperref24_block.l3 K st (rounds ws st 64) 0
  | 0, t, K, h => by
    obtain rfl : t = 64 := by omega
    show hopperref24_block.l2 (K + 1) _ _ _ _ _ = _
    rw [hopperref24_block.l2, if_neg (show ¬ ((64 : Nat) : Int) < 64 by omega)]
  | d + 1, t, K, h => by
    show hopperref24_block.l2 (K + 1 + d + 1) _ _ _ _ _ = _
    rw [bl2_step st ks ws _ t (K + 1 + d) (by omega) hz hk (rounds_len _ _ hs t)]
    have : rnd (rd ks t) (rd ws t) (rounds ws st t) = rounds ws st (t + 1) := by rw [hks]; rfl
    rw [this]
    exact bl2 st ks ws v0 hz hk hs hks d (t + 1) K (by omega)
theorem bl3_step (st v : List Int) (t K : Nat) (h2 : t < 8) (hs : st.length = 8) (hv : v.length = 8) : hopperref24_block.l3 (K + 1) st v (t : Int) = hopperref24_block.l3 K st (v.set t ((rd v t + rd st t) % 4294967296)) ((t + 1 : Nat) : Int) := by
  have c0 : (t : Int) < 8 := by omega
  have c1 : (0 : Int) ≤ (t : Int) := by omega
  have c2 : (t : Int) < (v.length : Int) := by omega
  have c3 : (t : Int) < (st.length : Int) := by omega
  have e4 := wadd t (by omega)
  rw [hopperref24_block.l3]
  simp only [e4, c0, c1, c2, c3, if_true, Int.toNat_natCast]
theorem bl3 (st v : List Int) (K : Nat) (hs : st.length = 8) (hv : v.length = 8) : hopperref24_block.l3 (K + 9) st v 0 = some (List.zipWith (fun s v => (s + v) % 4294967296) st v) := by
  obtain ⟨a, b, c, d, e, f, g, h, rfl⟩ := eight v hv
  obtain ⟨s0, s1, s2, s3, s4, s5, s6, s7, rfl⟩ := eight st hs
  have z0 := bl3_step [s0, s1, s2, s3, s4, s5, s6, s7] [a, b, c, d, e, f, g, h] 0 (K + 8) (by decide) rfl rfl
  have z1 := bl3_step [s0, s1, s2, s3, s4, s5, s6, s7] [(a + s0) % 4294967296, b, c, d, e, f, g, h] 1 (K + 7) (by decide) rfl rfl
  have z2 := bl3_step [s0, s1, s2, s3, s4, s5, s6, s7] [(a + s0) % 4294967296, (b + s1) % 4294967296, c, d, e, f, g, h] 2 (K + 6) (by decide) rfl rfl
  have z3 := bl3_step [s0, s1, s2, s3, s4, s5, s6, s7] [(a + s0) % 4294967296, (b + s1) % 4294967296, (c + s2) % 4294967296, d, e, f, g, h] 3 (K + 5) (by decide) rfl rfl
  have z4 := bl3_step [s0, s1, s2, s3, s4, s5, s6, s7] [(a + s0) % 4294967296, (b + s1) % 4294967296, (c + s2) % 4294967296, (d + s3) % 4294967296, e, f, g, h] 4 (K + 4) (by decide) rfl rfl
  have z5 := bl3_step [s0, s1, s2, s3, s4, s5, s6, s7] [(a + s0) % 4294967296, (b + s1) % 4294967296, (c + s2) % 4294967296, (d + s3) % 4294967296, (e + s4) % 4294967296, f, g, h] 5 (K + 3) (by decide) rfl rfl
  have z6 := bl3_step [s0, s1, s2, s3, s4, s5, s6, s7] [(a + s0) % 4294967296, (b + s1) % 4294967296, (c + s2) % 4294967296, (d + s3) % 4294967296, (e + s4) % 4294967296, (f + s5) % 4294967296, g, h] 6 (K + 2) (by decide) rfl rfl
  have z7 := bl3_step [s0, s1, s2, s3, s4, s5, s6, s7] [(a + s0) % 4294967296, (b + s1) % 4294967296, (c + s2) % 4294967296, (d + s3) % 4294967296, (e + s4) % 4294967296, (f + s5) % 4294967296, (g + s6) % 4294967296, h] 7 (K + 1) (by decide) rfl rfl
  refine z0.trans (z1.trans (z2.trans (z3.trans (z4.trans (z5.trans (z6.trans (z7.trans ?_)))))))
  show hopperref24_block.l3 (K + 1) _ _ ((8 : Nat) : Int) = _
  rw [hopperref24_block.l3, if_neg (by decide)]
  show some [(a + s0) % 4294967296, (b + s1) % 4294967296, (c + s2) % 4294967296, (d + s3) % 4294967296, (e + s4) % 4294967296, (f + s5) % 4294967296, (g + s6) % 4294967296, (h + s7) % 4294967296] = some [(s0 + a) % 4294967296, (s1 + b) % 4294967296, (s2 + c) % 4294967296, (s3 + d) % 4294967296, (s4 + e) % 4294967296, (s5 + f) % 4294967296, (s6 + g) % 4294967296, (s7 + h) % 4294967296]
  rw [Int.add_comm a, Int.add_comm b, Int.add_comm c, Int.add_comm d, Int.add_comm e, Int.add_comm f, Int.add_comm g, Int.add_comm h]
/-- The document's block is the program's. -/
theorem block_f (st bs : List Int) (hs : st.length = 8) (hb : bs.length = 64) (K : Nat) : hopperref24_block.f (K + 200) st KS bs = some (blk st bs) := by
  unfold hopperref24_block.f
  rw [if_pos (by decide)]
  have h0 := bl0 st KS bs hb 16 0 (K + 183) rfl
  have h1 := bl1 st KS bs hs 48 16 (K + 134) (by decide) rfl
  have h2 := bl2 st KS (sched bs 64) [] (sched_len _ _) rfl hs rfl 64 0 (K + 69) rfl
  have h3 := bl3 st (rounds (sched bs 64) st 64) (K + 60) hs (rounds_len _ _ hs _)
  have e0 : Zt bs 0 = List.replicate 64 0 := rfl
  rw [e0] at h0
  rw [sched64] at h1
  exact h0.trans (h1.trans (h2.trans h3))
end Go.Proofs.YtdnmllodefbekaaDoor.Sha
end

section
namespace Go.Proofs.YtdnmllodefbekaaDoor.Sha
open Go.RowKit Go.Lib Go.Proofs.YtdnmllodefbekaaDoorW.PrintWords Go.Proofs.YtdnmllodefbekaaDoorW.PrintLast Go.Proofs.YtdnmllodefbekaaDoorW.PrintMore
open Go.Proofs.YtdnmllodefbekaaDoor.HShaSums
set_option linter.unusedVariables false
set_option linter.unusedSimpArgs false


/-- The first 64 primes. -/
def PR : List Int := [2, 3, 5, 7, 11, 13, 17, 19, 23, 29, 31, 37, 41, 43, 47, 53, 59, 61, 67, 71, 73, 79, 83, 89, 97, 101, 103, 107, 109, 113, 127, 131, 137, 139, 149, 151, 157, 163, 167, 173, 179, 181, 191, 193, 197, 199, 211, 223, 227, 229, 233, 239, 241, 251, 257, 263, 269, 271, 277, 281, 283, 293, 307, 311]
set_option maxRecDepth 1000000 in
theorem primes_ev : hopperref24_primes.f 11642 64 = some PR := by decide +kernel
theorem square_ev : (PR.take 8).map (hopperref24_square.f 100) = HS.map some := by decide +kernel
theorem cube_ev : PR.map (hopperref24_cube.f 100) = KS.map some := by decide +kernel
end Go.Proofs.YtdnmllodefbekaaDoor.Sha
end

section
namespace Go.Proofs.YtdnmllodefbekaaDoor.Sha
open Go.RowKit Go.Lib Go.Proofs.YtdnmllodefbekaaDoorW.PrintWords Go.Proofs.YtdnmllodefbekaaDoorW.PrintLast Go.Proofs.YtdnmllodefbekaaDoorW.PrintMore
open Go.Proofs.YtdnmllodefbekaaDoor.HShaSums
set_option linter.unusedVariables false
set_option linter.unusedSimpArgs false


theorem up {α : Type} (f : Nat → Option α) (hm : ∀ k, LeO (f k) (f (k + 1))) {k : Nat} {r : α} (h : f k = some r) : ∀ n, f (k + n) = some r
  | 0 => h
  | n + 1 => hm _ _ (up f hm h n)
theorem square_f (t K : Nat) (h : t < 8) : hopperref24_square.f (K + 100) (rd PR t) = some (rd HS t) := by
  have e : ((PR.take 8).map (hopperref24_square.f 100))[t]? = (HS.map some)[t]? := by rw [square_ev]
  rw [List.getElem?_map, List.getElem?_map, List.getElem?_take, if_pos h] at e
  have hp : PR[t]? = some (rd PR t) := by
    have : t < PR.length := Nat.lt_of_lt_of_le h (by decide)
    simp [rd, List.getD_eq_getElem?_getD, this]
  have hh : HS[t]? = some (rd HS t) := by
    have : t < HS.length := h
    simp [rd, List.getD_eq_getElem?_getD, this]
  rw [hp, hh] at e
  have := up (fun k => hopperref24_square.f k (rd PR t)) (fun k => hopperref24_square.mono _ k) (Option.some.inj e) K
  rw [Nat.add_comm] at this
  exact this
theorem cube_f (t K : Nat) (h : t < 64) : hopperref24_cube.f (K + 100) (rd PR t) = some (rd KS t) := by
  have e : (PR.map (hopperref24_cube.f 100))[t]? = (KS.map some)[t]? := by rw [cube_ev]
  rw [List.getElem?_map, List.getElem?_map] at e
  have hp : PR[t]? = some (rd PR t) := by
    have : t < PR.length := h
    simp [rd, List.getD_eq_getElem?_getD, this]
  have hh : KS[t]? = some (rd KS t) := by
    have : t < KS.length := h
    simp [rd, List.getD_eq_getElem?_getD, this]
  rw [hp, hh] at e
  have := up (fun k => hopperref24_cube.f k (rd PR t)) (fun k => hopperref24_cube.mono _ k) (Option.some.inj e) K
  rw [Nat.add_comm] at this
  exact this
theorem take_rd (l : List Int) (t : Nat) (h : t < l.length) : l.take t ++ [rd l t] = l.take (t + 1) := by
  rw [List.take_succ_eq_append_getElem h]
  simp [rd, List.getD_eq_getElem?_getD, h]
theorem s0_lo (b : ByteArray) (t K : Nat) (h : t < 8) : hopperref24_Sum.l0 (K + 101) b PR (HS.take t) (KS.take t) (t : Int) = hopperref24_Sum.l0 (K + 100) b PR (HS.take (t + 1)) (KS.take (t + 1)) ((t + 1 : Nat) : Int) := by
  have c0 : (t : Int) < 64 := by omega
  have c1 : (t : Int) < 8 := by omega
  have c2 : (0 : Int) ≤ (t : Int) := by omega
  have c3 : (t : Int) < (PR.length : Int) := by have : PR.length = 64 := rfl; omega
  have c4 : (HS.take t).length < 35184372088832 := by rw [List.length_take]; omega
  have c5 : (KS.take t).length < 35184372088832 := by rw [List.length_take]; omega
  have e4 := wadd t (by omega)
  show hopperref24_Sum.l0 (K + 100 + 1) _ _ _ _ _ = _
  rw [hopperref24_Sum.l0]
  simp only [e4, c0, c1, c2, c3, c4, c5, if_true, square_f t K h, cube_f t K (by omega), Option.bind_some]
  rw [take_rd HS t h, take_rd KS t (Nat.lt_of_lt_of_le h (by decide))]
theorem s0_hi (b : ByteArray) (t K : Nat) (h8 : 8 ≤ t) (h : t < 64) : hopperref24_Sum.l0 (K + 101) b PR HS (KS.take t) (t : Int) = hopperref24_Sum.l0 (K + 100) b PR HS (KS.take (t + 1)) ((t + 1 : Nat) : Int) := by
  have c0 : (t : Int) < 64 := by omega
  have c1 : ¬ (t : Int) < 8 := by omega
  have c2 : (0 : Int) ≤ (t : Int) := by omega
  have c3 : (t : Int) < (PR.length : Int) := by have : PR.length = 64 := rfl; omega
  have c5 : (KS.take t).length < 35184372088832 := by rw [List.length_take]; omega
  have e4 := wadd t (by omega)
  show hopperref24_Sum.l0 (K + 100 + 1) _ _ _ _ _ = _
  rw [hopperref24_Sum.l0]
  simp only [e4, c0, c1, c2, c3, c5, if_true, if_false, cube_f t K h, Option.bind_some]
  rw [take_rd KS t h]
theorem s0_lo_all (b : ByteArray) : ∀ (d t K : Nat), t + d = 8 → hopperref24_Sum.l0 (K + 100 + d) b PR (HS.take t) (KS.take t) (t : Int) = hopperref24_Sum.l0 (K + 100) b PR HS (KS.take 8) ((8 : Nat) : Int)
  | 0, t, K, h => by obtain rfl : t = 8 := by omega
                     rfl
  | d + 1, t, K, h => by
    have e := s0_lo b t (K + d) (by omega)
    rw [show K + 100 + (d + 1) = K + d + 101 by omega, e, show K + d + 100 = K + 100 + d by omega]
    exact s0_lo_all b d (t + 1) K (by omega)
theorem s0_hi_all (b : ByteArray) (hb : b.size ≤ 1000000000) : ∀ (d t K : Nat), 8 ≤ t → t + d = 64 → hopperref24_Sum.l0 (K + 101 + d) b PR HS (KS.take t) (t : Int) = hopperref24_Sum.l1 (K + 100) b HS KS (bytesOf b ++ [128])
  | 0, t, K, h8, h => by
    obtain rfl : t = 64 := by omega
    show hopperref24_Sum.l0 (K + 100 + 1) _ _ _ _ _ = _
    have hl : (bytesOf b).length < 140737488355328 := by rw [bytesOf_length]; omega
    rw [hopperref24_Sum.l0, if_neg (show ¬ ((64 : Nat) : Int) < 64 by omega), Option.bind_some, if_pos hl]
    rfl
  | d + 1, t, K, h8, h => by
    have e := s0_hi b t (K + 1 + d) h8 (by omega)
    rw [show K + 101 + (d + 1) = K + 1 + d + 101 by omega, e, show K + 1 + d + 100 = K + 101 + d by omega]
    exact s0_hi_all b hb d (t + 1) K (by omega) (by omega)
def lenL (b : ByteArray) : Int := IntKind.u64.wrap ((IntKind.u64.wrap (b.size : Int)) * 8)
theorem s1_go (b : ByteArray) (st ks : List Int) : ∀ (z K : Nat) (xs : List Int), xs.length + z ≤ 2000000000 → (xs.length + z) % 64 = 56 → (∀ j, j < z → (xs.length + j) % 64 ≠ 56) → hopperref24_Sum.l1 (K + 1 + z) b st ks xs = hopperref24_Sum.l2 K st ks (xs ++ List.replicate z 0) (lenL b) 7
  | 0, K, xs, h1, h2, h3 => by
    show hopperref24_Sum.l1 (K + 1) _ _ _ _ = _
    rw [hopperref24_Sum.l1, if_pos (by omega)]
    simp [lenL]
  | z + 1, K, xs, h1, h2, h3 => by
    show hopperref24_Sum.l1 (K + 1 + z + 1) _ _ _ _ = _
    have h0 := h3 0 (by omega)
    rw [hopperref24_Sum.l1, if_neg (by omega), if_pos (by omega), s1_go b st ks z K (xs ++ [0]) (by rw [List.length_append]; simp; omega) (by rw [List.length_append]; simp; omega) (fun j hj => by rw [List.length_append]; have := h3 (j + 1) (by omega); simp; omega), List.append_assoc]
    rfl
theorem s2_step (st ks xs : List Int) (L j s a : Int) (K : Nat) (hj : 0 ≤ j) (hs : IntKind.u64.wrap (wrap64 (8 * j)) = s) (hs0 : 0 ≤ s) (ha : (2 : Int) ^ min s.toNat IntKind.u64.bits = a) (hx : xs.length ≤ 3000000000) (j' : Int) (hj' : wrap64 (j - 1) = j') :
    hopperref24_Sum.l2 (K + 1) st ks xs L j = hopperref24_Sum.l2 K st ks (xs ++ [L / a % 256]) L j' := by
  rw [hopperref24_Sum.l2, if_pos hj, hs, if_pos hs0, if_pos (by omega), hj']
  unfold shr
  rw [ha]
theorem s2_go (st ks xs : List Int) (L : Int) (K : Nat) (hx : xs.length ≤ 2000000000) : hopperref24_Sum.l2 (K + 9) st ks xs L 7 = hopperref24_Sum.l3 K st ks (xs ++ lenB L) 0 := by
  rw [s2_step st ks xs L 7 56 72057594037927936 (K + 8) (by decide) (by rw [w64 _ (by decide) (by decide)]; decide) (by decide) (by decide) (by omega) 6 ((w64 _ (by decide) (by decide)).trans (by decide)),
    s2_step st ks _ L 6 48 281474976710656 (K + 7) (by decide) (by rw [w64 _ (by decide) (by decide)]; decide) (by decide) (by decide) (by simp; omega) 5 ((w64 _ (by decide) (by decide)).trans (by decide)),
    s2_step st ks _ L 5 40 1099511627776 (K + 6) (by decide) (by rw [w64 _ (by decide) (by decide)]; decide) (by decide) (by decide) (by simp; omega) 4 ((w64 _ (by decide) (by decide)).trans (by decide)),
    s2_step st ks _ L 4 32 4294967296 (K + 5) (by decide) (by rw [w64 _ (by decide) (by decide)]; decide) (by decide) (by decide) (by simp; omega) 3 ((w64 _ (by decide) (by decide)).trans (by decide)),
    s2_step st ks _ L 3 24 16777216 (K + 4) (by decide) (by rw [w64 _ (by decide) (by decide)]; decide) (by decide) (by decide) (by simp; omega) 2 ((w64 _ (by decide) (by decide)).trans (by decide)),
    s2_step st ks _ L 2 16 65536 (K + 3) (by decide) (by rw [w64 _ (by decide) (by decide)]; decide) (by decide) (by decide) (by simp; omega) 1 ((w64 _ (by decide) (by decide)).trans (by decide)),
    s2_step st ks _ L 1 8 256 (K + 2) (by decide) (by rw [w64 _ (by decide) (by decide)]; decide) (by decide) (by decide) (by simp; omega) 0 ((w64 _ (by decide) (by decide)).trans (by decide)),
    s2_step st ks _ L 0 0 1 (K + 1) (by decide) (by rw [w64 _ (by decide) (by decide)]; decide) (by decide) (by decide) (by simp; omega) (-1) ((w64 _ (by decide) (by decide)).trans (by decide)), hopperref24_Sum.l2, if_neg (by decide)]
  unfold lenB
  simp
end Go.Proofs.YtdnmllodefbekaaDoor.Sha
end

section
namespace Go.Proofs.YtdnmllodefbekaaDoor.Sha
open Go.RowKit Go.Lib Go.Proofs.YtdnmllodefbekaaDoorW.PrintWords Go.Proofs.YtdnmllodefbekaaDoorW.PrintLast Go.Proofs.YtdnmllodefbekaaDoorW.PrintMore
open Go.Proofs.YtdnmllodefbekaaDoor.HShaSums
set_option linter.unusedVariables false
set_option linter.unusedSimpArgs false



def blocks : Nat → List Int → List Int → List Int
  | 0, st, _ => st
  | n + 1, st, xs => blocks n (blk st (xs.take 64)) (xs.drop 64)
theorem absorb_blocks : ∀ (N k : Nat) (st xs : List Int), xs.length = 64 * N → N < k → (absorb k st xs).1 = blocks N st xs
  | 0, k + 1, st, xs, h, _ => by
    rw [absorb, if_neg (by omega)]; rfl
  | N + 1, k + 1, st, xs, h, hk => by
    rw [absorb, if_pos (by omega)]
    exact absorb_blocks N k _ _ (by rw [List.length_drop]; omega) (by omega)
theorem blocks_len : ∀ (N : Nat) (st xs : List Int), st.length = 8 → (blocks N st xs).length = 8
  | 0, _, _, h => h
  | N + 1, st, xs, h => blocks_len N _ _ (blk_len _ _ h)
theorem s3_go (bs : List Int) (hb : bs.length ≤ 2000000000) : ∀ (N p K : Nat) (st : List Int), st.length = 8 → bs.length = p + 64 * N → hopperref24_Sum.l3 (K + 201 + N) st KS bs (p : Int) = hopperref24_Sum.l4 (K + 200) (blocks N st (bs.drop p)) [] 0
  | 0, p, K, st, hs, h => by
    show hopperref24_Sum.l3 (K + 200 + 1) _ _ _ _ = _
    rw [hopperref24_Sum.l3, if_neg (by omega)]
    rfl
  | N + 1, p, K, st, hs, h => by
    have c0 : (p : Int) < (bs.length : Int) := by omega
    have c1 : (0 : Int) ≤ (p : Int) := by omega
    have c2 : (p : Int) ≤ ((p + 64 : Nat) : Int) := by omega
    have c3 : ((p + 64 : Nat) : Int) ≤ (bs.length : Int) := by omega
    have hcut : (bs.take (p + 64)).drop p = (bs.drop p).take 64 := by
      rw [List.drop_take]
      congr 1
      omega
    have hbl : ((bs.drop p).take 64).length = 64 := by rw [List.length_take, List.length_drop]; omega
    have hblk := block_f st ((bs.drop p).take 64) hs hbl (K + 1 + N)
    have hlen := blk_len st ((bs.drop p).take 64) hs
    have hdd : (bs.drop p).drop 64 = bs.drop (p + 64) := by rw [List.drop_drop]
    have hrec := s3_go bs hb N (p + 64) K (blk st ((bs.drop p).take 64)) hlen (by omega)
    have e4 : wrap64 ((p : Int) + 64) = ((p + 64 : Nat) : Int) := by rw [w64 _ (by omega) (by omega)]; omega
    rw [show K + 201 + (N + 1) = (K + 1 + N + 200) + 1 by omega, hopperref24_Sum.l3]
    simp only [e4, c0, c1, c2, c3, if_true, Int.toNat_natCast, hcut, hblk, Option.bind_some]
    rw [show K + 1 + N + 200 = K + 201 + N by omega, hrec]
    show _ = hopperref24_Sum.l4 (K + 200) (blocks N (blk st ((bs.drop p).take 64)) ((bs.drop p).drop 64)) [] 0
    rw [hdd]
theorem s4_step (st acc : List Int) (t K : Nat) (h : t < 8) (hs : st.length = 8) (ha : acc.length ≤ 1000) : hopperref24_Sum.l4 (K + 1) st acc (t : Int) = hopperref24_Sum.l4 K st (acc ++ wordB (rd st t)) ((t + 1 : Nat) : Int) := by
  have c0 : (t : Int) < 8 := by omega
  have c1 : (0 : Int) ≤ (t : Int) := by omega
  have c2 : (t : Int) < (st.length : Int) := by omega
  have c3 : acc.length + (wordB (rd st t)).length < 140737488355328 := by show acc.length + 4 < _; omega
  have e4 := wadd t (by omega)
  rw [hopperref24_Sum.l4]
  simp only [e4, c0, c1, c2, if_true, Option.bind_some]
  unfold wordB at c3 ⊢
  rw [if_pos c3]
theorem s4_go (st : List Int) (K : Nat) (hs : st.length = 8) : hopperref24_Sum.l4 (K + 9) st [] 0 = some (strOfNums (outL st)) := by
  obtain ⟨a, b, c, d, e, f, g, h, rfl⟩ := eight st hs
  refine (s4_step _ [] 0 (K + 8) (by decide) rfl (by decide)).trans ?_
  refine (s4_step _ _ 1 (K + 7) (by decide) rfl (by simp [wordB])).trans ?_
  refine (s4_step _ _ 2 (K + 6) (by decide) rfl (by simp [wordB])).trans ?_
  refine (s4_step _ _ 3 (K + 5) (by decide) rfl (by simp [wordB])).trans ?_
  refine (s4_step _ _ 4 (K + 4) (by decide) rfl (by simp [wordB])).trans ?_
  refine (s4_step _ _ 5 (K + 3) (by decide) rfl (by simp [wordB])).trans ?_
  refine (s4_step _ _ 6 (K + 2) (by decide) rfl (by simp [wordB])).trans ?_
  refine (s4_step _ _ 7 (K + 1) (by decide) rfl (by simp [wordB])).trans ?_
  rw [hopperref24_Sum.l4, if_neg (by decide)]
  rfl
theorem rest_mod : ∀ (k : Nat) (st xs : List Int), xs.length < k → (absorb k st xs).2.length = xs.length % 64
  | 0, _, _, h => by omega
  | k + 1, st, xs, h => by
    unfold absorb
    split
    · rw [rest_mod k _ _ (by rw [List.length_drop]; omega), List.length_drop]; omega
    · show xs.length = _; omega
/-- The digest by whole blocks of the padded bytes. -/
theorem shaL_blocks (xs : List Int) (N : Nat) (h : (xs ++ padS (xs.length % 64) (IntKind.u64.wrap (xs.length : Int))).length = 64 * N) : shaL xs = outL (blocks N HS (xs ++ padS (xs.length % 64) (IntKind.u64.wrap (xs.length : Int)))) := by
  have hr := rest_mod (xs.length + 1) HS xs (by omega)
  unfold shaL sumL
  rw [hr, ← absorb_cat (xs.length + 1) HS xs _ (by omega), absorb_blocks N _ HS _ h (by rw [List.length_append] at h; omega)]
theorem refsum_f (b : ByteArray) (hb : b.size ≤ 1000000000) : ∃ K, hopperref24_Sum.f K b = some (strOfNums (shaL (bytesOf b))) := by
  obtain ⟨z, hz⟩ : ∃ z, zs ((bytesOf b).length % 64) = z := ⟨_, rfl⟩
  have hl : (bytesOf b).length = b.size := bytesOf_length b
  have hz0 : z = (119 - (bytesOf b).length % 64) % 64 := hz.symm
  obtain ⟨N, hN⟩ : ∃ N, (bytesOf b).length + 1 + z + 8 = 64 * N := ⟨((bytesOf b).length + 1 + z + 8) / 64, by omega⟩
  have hL : lenL b = IntKind.u64.wrap (8 * IntKind.u64.wrap ((bytesOf b).length : Int)) := by unfold lenL; rw [hl, Int.mul_comm]
  have hall : (bytesOf b ++ [128] ++ List.replicate z 0) ++ lenB (lenL b) = bytesOf b ++ padS ((bytesOf b).length % 64) (IntKind.u64.wrap ((bytesOf b).length : Int)) := by
    unfold padS
    rw [hz, hL]
    simp
  have hlen : (bytesOf b ++ padS ((bytesOf b).length % 64) (IntKind.u64.wrap ((bytesOf b).length : Int))).length = 64 * N := by
    rw [← hall]
    simp [lenB]
    omega
  have hsha := shaL_blocks (bytesOf b) N hlen
  obtain ⟨ALL, hALL⟩ : ∃ ALL, bytesOf b ++ padS ((bytesOf b).length % 64) (IntKind.u64.wrap ((bytesOf b).length : Int)) = ALL := ⟨_, rfl⟩
  rw [hALL] at hall hlen hsha
  refine ⟨12276 + N + z, ?_⟩
  have hp := up (fun k => hopperref24_primes.f k 64) (fun k => hopperref24_primes.mono _ k) primes_ev (12276 + N + z - 11642)
  have hp' : hopperref24_primes.f (12276 + N + z) 64 = some PR := by
    rw [show 12276 + N + z = 11642 + (12276 + N + z - 11642) by omega]
    exact hp
  unfold hopperref24_Sum.f
  rw [hp', Option.bind_some]
  have a0 := s0_lo_all b 8 0 (12168 + N + z) rfl
  have a1 := s0_hi_all b hb 56 8 (12111 + N + z) (by decide) rfl
  have a2 := s1_go b HS KS z (12210 + N) (bytesOf b ++ [128]) (by simp; omega) (by simp; omega) (fun j hj => by simp; omega)
  have a3 := s2_go HS KS (bytesOf b ++ [128] ++ List.replicate z 0) (lenL b) (12201 + N) (by simp; omega)
  have a4 := s3_go ALL (by rw [hlen]; omega) N 0 12000 HS rfl (by omega)
  have a5 := s4_go (blocks N HS ALL) 12191 (blocks_len _ _ _ rfl)
  rw [hall] at a3
  rw [show 12168 + N + z + 100 + 8 = 12276 + N + z by omega] at a0
  rw [show 12111 + N + z + 101 + 56 = 12168 + N + z + 100 by omega, show 12111 + N + z + 100 = 12210 + N + 1 + z by omega] at a1
  rw [show 12201 + N + 9 = 12210 + N by omega] at a3
  rw [show 12000 + 201 + N = 12201 + N by omega] at a4
  rw [hsha]
  exact a0.trans (a1.trans (a2.trans (a3.trans (a4.trans a5))))
end Go.Proofs.YtdnmllodefbekaaDoor.Sha
end

section
namespace Go.Proofs.YtdnmllodefbekaaDoor.Sha
open Go.RowKit Go.Lib Go.Proofs.YtdnmllodefbekaaDoorW.PrintWords Go.Proofs.YtdnmllodefbekaaDoorW.PrintLast Go.Proofs.YtdnmllodefbekaaDoorW.PrintMore
open Go.Proofs.YtdnmllodefbekaaDoor.HShaSums
set_option linter.unusedVariables false
set_option linter.unusedSimpArgs false



/-- The padded key behind t bytes. -/
def Pz (src : List Int) (y : Int) (t : Nat) : List Int := ((src.take t).map fun x => Go.bits .xor .u8 x y) ++ List.replicate (64 - t) 0
theorem Pz_pre (src : List Int) (y : Int) (t : Nat) (hs : src.length = 64) (h : t ≤ 64) : ((src.take t).map fun x => Go.bits .xor .u8 x y).length = t := by
  rw [List.length_map, List.length_take]; omega
theorem Pz_len (src : List Int) (y : Int) (t : Nat) (hs : src.length = 64) (h : t ≤ 64) : (Pz src y t).length = 64 := by
  unfold Pz
  rw [List.length_append, Pz_pre src y t hs h, List.length_replicate]; omega
theorem Pz_set (src : List Int) (y : Int) (t : Nat) (v : Int) (hs : src.length = 64) (h : t < 64) : (Pz src y t).set t v = ((src.take t).map fun x => Go.bits .xor .u8 x y) ++ v :: List.replicate (63 - t) 0 := by
  unfold Pz
  rw [List.set_append, if_neg (by rw [Pz_pre src y t hs (by omega)]; omega), Pz_pre src y t hs (by omega), Nat.sub_self, show 64 - t = (63 - t) + 1 by omega, List.replicate_succ, List.set_cons_zero]
theorem Pz_next (src : List Int) (y : Int) (t : Nat) (hs : src.length = 64) (h : t < 64) : ((src.take t).map fun x => Go.bits .xor .u8 x y) ++ Go.bits .xor .u8 (rd src t) y :: List.replicate (63 - t) 0 = Pz src y (t + 1) := by
  unfold Pz
  rw [← take_rd src t (by omega), List.map_append, List.append_assoc, show 64 - (t + 1) = 63 - t by omega]
  rfl
theorem rd_mid (l m : List Int) (v : Int) (t : Nat) (h : l.length = t) : rd (l ++ v :: m) (t : Int) = v := by
  unfold rd
  rw [List.getD_eq_getElem?_getD, Int.toNat_natCast, List.getElem?_append_right (by omega), h, Nat.sub_self]
  rfl
theorem pad_step (key : ByteArray) (y : Int) (src : List Int) (hsrc : src = bytesOf key ++ List.replicate (64 - (bytesOf key).length) 0) (hk : key.size ≤ 64) (t K : Nat) (h : t < 64) :
    hopperref24_pad.l0 (K + 1) key y (Pz src y t) (t : Int) = hopperref24_pad.l0 K key y (Pz src y (t + 1)) ((t + 1 : Nat) : Int) := by
  have hs : src.length = 64 := by rw [hsrc, List.length_append, List.length_replicate, bytesOf_length]; omega
  have hpl := Pz_len src y t hs (by omega)
  have hpre := Pz_pre src y t hs (by omega)
  have c0 : (t : Int) < 64 := by omega
  have c2 : (0 : Int) ≤ (t : Int) := by omega
  have c3 : (t : Int) < ((Pz src y t).length : Int) := by omega
  by_cases hq : t < key.size
  · have c1 : (t : Int) < (key.size : Int) := by omega
    have hb : rd src (t : Int) = bt key (t : Int) := by
      rw [hsrc, ← rd_bytesOf]
      unfold rd
      rw [List.getD_eq_getElem?_getD, List.getD_eq_getElem?_getD, Int.toNat_natCast, List.getElem?_append_left (by rw [bytesOf_length]; exact hq)]
    have e4 := wadd t (by omega)
    rw [hopperref24_pad.l0]
    simp only [e4, c0, c1, c2, c3, if_true, Option.bind_some, Int.toNat_natCast]
    rw [Pz_set src y t _ hs h, rd_mid _ _ _ t hpre, List.set_append, if_neg (by omega), hpre, Nat.sub_self, List.set_cons_zero, ← hb, Pz_next src y t hs h]
  · have c1 : ¬ (t : Int) < (key.size : Int) := by omega
    have hb : rd src (t : Int) = 0 := by
      rw [hsrc]
      unfold rd
      rw [List.getD_eq_getElem?_getD, Int.toNat_natCast, List.getElem?_append_right (by rw [bytesOf_length]; omega), List.getElem?_replicate]
      split <;> rfl
    have hr : rd (Pz src y t) (t : Int) = 0 := by
      unfold Pz
      rw [show 64 - t = (63 - t) + 1 by omega, List.replicate_succ, rd_mid _ _ _ t hpre]
    have e4 := wadd t (by omega)
    rw [hopperref24_pad.l0]
    simp only [e4, c0, c1, c2, c3, if_true, if_false, Int.toNat_natCast]
    rw [hr, ← hb, Pz_set src y t _ hs h, Pz_next src y t hs h]
theorem pad_go (key : ByteArray) (y : Int) (src : List Int) (hsrc : src = bytesOf key ++ List.replicate (64 - (bytesOf key).length) 0) (hk : key.size ≤ 64) : ∀ (d t K : Nat), t + d = 64 → hopperref24_pad.l0 (K + 1 + d) key y (Pz src y t) (t : Int) = some (strOfNums (Pz src y 64))
  | 0, t, K, h => by
    obtain rfl : t = 64 := by omega
    show hopperref24_pad.l0 (K + 1) _ _ _ _ = _
    rw [hopperref24_pad.l0, if_neg (show ¬ ((64 : Nat) : Int) < 64 by omega)]
  | d + 1, t, K, h => by
    show hopperref24_pad.l0 (K + 1 + d + 1) _ _ _ _ = _
    rw [pad_step key y src hsrc hk t (K + 1 + d) (by omega)]
    exact pad_go key y src hsrc hk d (t + 1) K (by omega)
theorem pad_f (key : ByteArray) (y : Int) (hk : key.size ≤ 64) (K : Nat) : hopperref24_pad.f (K + 65) key y = some (strOfNums (padL (bytesOf key) y)) := by
  unfold hopperref24_pad.f
  rw [if_pos (by decide)]
  have h := pad_go key y _ rfl hk 64 0 K rfl
  have e : Pz (bytesOf key ++ List.replicate (64 - (bytesOf key).length) 0) y 64 = padL (bytesOf key) y := by
    unfold Pz padL
    rw [List.take_of_length_le (by rw [List.length_append, List.length_replicate, bytesOf_length]; omega)]
    simp
  rw [e] at h
  exact h
theorem refmac_j (key b : ByteArray) (hk : key.size ≤ 64) (hb : b.size ≤ 900000000) : ∃ K, ∀ n, hopperref24_Mac.j0 (K + n) key b = some (strOfNums (shaL (padL (bytesOf key) 92 ++ shaL (padL (bytesOf key) 54 ++ bytesOf b)))) := by
  have hp1 : (strOfNums (padL (bytesOf key) 54)).size = 64 := by rw [strOfNums_size', padL_len _ _ (by rw [bytesOf_length]; exact hk)]
  have hp2 : (strOfNums (padL (bytesOf key) 92)).size = 64 := by rw [strOfNums_size', padL_len _ _ (by rw [bytesOf_length]; exact hk)]
  obtain ⟨K1, h1⟩ := refsum_f (strOfNums (padL (bytesOf key) 54) ++ b) (by rw [ByteArray.size_append, hp1]; omega)
  rw [bytesOf_append, bytesOf_strOfNums _ (padL_byte _ _ (bytesOf_byte key) (.inr rfl))] at h1
  have hd : (strOfNums (shaL (padL (bytesOf key) 54 ++ bytesOf b))).size = 32 := by rw [strOfNums_size', shaL_len]
  obtain ⟨K2, h2⟩ := refsum_f (strOfNums (padL (bytesOf key) 92) ++ strOfNums (shaL (padL (bytesOf key) 54 ++ bytesOf b))) (by rw [ByteArray.size_append, hp2, hd]; omega)
  rw [bytesOf_append, bytesOf_shaL, bytesOf_strOfNums _ (padL_byte _ _ (bytesOf_byte key) (.inl rfl))] at h2
  refine ⟨K1 + K2 + 66, fun n => ?_⟩
  have g1 := up (fun k => hopperref24_Sum.f k (strOfNums (padL (bytesOf key) 54) ++ b)) (fun k => hopperref24_Sum.mono _ k) h1 (K2 + 65 + n)
  have g2 := up (fun k => hopperref24_Sum.f k (strOfNums (padL (bytesOf key) 92) ++ strOfNums (shaL (padL (bytesOf key) 54 ++ bytesOf b)))) (fun k => hopperref24_Sum.mono _ k) h2 (K1 + 65 + n)
  have g1 : hopperref24_Sum.f (K1 + (K2 + 65 + n)) _ = some _ := g1
  have g2 : hopperref24_Sum.f (K2 + (K1 + 65 + n)) _ = some _ := g2
  rw [show K1 + (K2 + 65 + n) = K1 + K2 + n + 65 by omega] at g1
  rw [show K2 + (K1 + 65 + n) = K1 + K2 + n + 65 by omega] at g2
  rw [show K1 + K2 + 66 + n = (K1 + K2 + n + 65) + 1 by omega, hopperref24_Mac.j0, pad_f key 92 hk (K1 + K2 + n), Option.bind_some, pad_f key 54 hk (K1 + K2 + n), Option.bind_some, if_pos (by rw [hp1]; omega), g1, Option.bind_some, if_pos (by rw [hp2, hd]; decide), g2, Option.bind_some]
theorem refmac_f (key b : ByteArray) (hk : key.size ≤ 1000000000) (hb : b.size ≤ 900000000) : ∃ K, hopperref24_Mac.f K key b = some (strOfNums (macL (bytesOf key) (bytesOf b))) := by
  unfold macL keyL
  by_cases q : 64 < key.size
  · rw [if_pos (by rw [bytesOf_length]; exact q)]
    obtain ⟨K1, h1⟩ := refsum_f key hk
    obtain ⟨K2, h2⟩ := refmac_j (strOfNums (shaL (bytesOf key))) b (by rw [strOfNums_size', shaL_len]; omega) hb
    rw [bytesOf_shaL] at h2
    refine ⟨K2 + K1, ?_⟩
    have g1 := up (fun k => hopperref24_Sum.f k key) (fun k => hopperref24_Sum.mono _ k) h1 K2
    have g1 : hopperref24_Sum.f (K1 + K2) key = some _ := g1
    unfold hopperref24_Mac.f
    rw [if_pos (by omega), show K2 + K1 = K1 + K2 by omega, g1, Option.bind_some, show K1 + K2 = K2 + K1 by omega]
    exact h2 K1
  · rw [if_neg (by rw [bytesOf_length]; exact q)]
    obtain ⟨K2, h2⟩ := refmac_j key b (by omega) hb
    refine ⟨K2 + 0, ?_⟩
    unfold hopperref24_Mac.f
    rw [if_neg (by omega)]
    exact h2 0
end Go.Proofs.YtdnmllodefbekaaDoor.Sha
end
