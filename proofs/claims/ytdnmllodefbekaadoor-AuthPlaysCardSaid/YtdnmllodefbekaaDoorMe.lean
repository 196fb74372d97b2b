/- Me: the texts Au20, Au21, Au22, Au23, Au24, Au25, Au26, Au27, Au28, Au29, Au30, Au31, Au32, Au33, one behind the other. -/
import Derived.Test.YtdnmllodefbekaaDoorProg
import Derived.Below
import Derived.Deep.Draws
import Derived.Deep.AppendLies
import Derived.Maps.AppendAt
import Derived.OwnWalk
import Derived.Laws.BytesArg
import Derived.Laws.MakeOwn
import Derived.Laws.OwnMore
import Derived.Deep.OwnRows
import Derived.Tactics
import Derived.Lib.ConvBytes
import Derived.Laws.Slices
import Derived.WalkKit
import Derived.KernelRfl
import Derived.RowKit3
import Derived.Deep.LoopGhost
import Derived.Deep.QuietTactic
import Derived.BigQuiet
import Derived.WideLaws
import Derived.Deep.DeepCutAuto
import Derived.Deep.CutBlock
import Derived.Deep.RegionHeld3
import Derived.Laws.Rows
import Derived.Lib.AppendStr
import Derived.ArgAppend
import Derived.Laws.IdiomCopy
import Derived.OrdersHeld
import Derived.Laws.BitsLemmas
import Derived.RowKit
import Derived.LoopTactic
import Derived.WalkMore
import Derived.Scope
import Derived.Lib.Hide
import Derived.WalkSpells
import Derived.Test.YtdnmllodefbekaaDoorWWords
import Derived.Test.YtdnmllodefbekaaDoorWLast
import Derived.Test.YtdnmllodefbekaaDoorWTab
import Derived.Test.YtdnmllodefbekaaDoorWRepsOne
import Derived.Test.YtdnmllodefbekaaDoorPm
import Derived.Test.YtdnmllodefbekaaDoorMc
import Derived.Test.YtdnmllodefbekaaDoorMd
import Derived.WideAt
import Derived.WideShapes
import Derived.WalkLawsBesides
import Derived.ProofKit
import Derived.OpenShut
import Derived.Deep.Slices
import Derived.Deep.Fields
import Derived.SizedLaws
import Derived.DataReads
section
-- Written by a program of this session (wip/tools/handprint.py) out of the translation; hand-written parts among it. Lean checks it.
namespace Go.Proofs.YtdnmllodefbekaaDoor.HAuthPlays
open Go.RowKit Go.Proofs.YtdnmllodefbekaaDoorW.PrintWords Go.Proofs.YtdnmllodefbekaaDoorW.PrintLast Go.Proofs.YtdnmllodefbekaaDoorW.PrintMore
attribute [local go_sem] max2_int min2_int max_two min_two max_three min_three max_four min_four   -- for this text's walks alone
set_option linter.unusedVariables false
set_option linter.unusedSimpArgs false



def errW : Option Int → Value
  | none => .nilIface
  | some c => .iface 0 (.int .i64 c)
theorem errW_none : errW none = .nilIface := rfl
theorem errW_some (c : Int) : errW (some c) = .iface 0 (.int .i64 c) := rfl

/-! ### make([]T, 0, c): a row of one's own, with room -/
section
variable {P : Program} {ops : Array Oper} {rest : List Oper} {o : Oper} {a : Act} {Q : Exit → Act → World → Prop} {α : Type}
theorem Kd.R_makecap (d : Kd α) {w0 W : World} (base e : Nat) (hgd : o.guard = none) {N : Tmp} (hd : o.dst = some N) (t : TypeId) (x y : Operand) (ho : o.op = .makeSlice t x y) (n : Int) (hx : a.eval x = .int .i64 0) (hy : a.eval y = .int .i64 n)
    (ht : P.underlying t = some (.slice e)) (z : Value) (bytes : Nat) (hinfo : (P.info? e).map (fun i => (i.zero, i.size, i.bytes)) = some (some z, d.sz, bytes)) (hz : z.cells.size = d.sz) (hs0 : 0 < d.sz) (hb0 : 0 < bytes)
    (z0 : α) {ok okp : Nat → Prop} (hzero : d.M W base okp z0 z.cells.toList) (hok : ∀ k, okp k → ok k) (hfresh : ok W.heap.size) (h0 : 0 ≤ n) (hl : n.toNat * bytes ≤ 281474976710656) (HB : Below base w0 W) (hbase : base ≤ W.heap.size)
    (h : ∀ v1 w1, d.R e w1 base ok v1 ([] : List α) → Below base w0 w1 → W.grownBy w1 none → (∃ b, v1.ownBlock = some b ∧ W.heap.size ≤ b) → wpList P ops Q rest (a.put o.dst v1) w1) : wpList P ops Q (o :: rest) a W := by
  obtain ⟨m, rfl⟩ := Int.eq_ofNat_of_zero_le h0
  simp only [Int.toNat_natCast] at hl h
  obtain ⟨i0, hi, hzz⟩ := Option.map_eq_some_iff.1 hinfo
  simp only [Prod.mk.injEq] at hzz
  obtain ⟨hz0, hz1, hz2⟩ := hzz
  have hm : m ≤ 281474976710656 := Nat.le_trans (Nat.le_mul_of_pos_right _ hb0) hl
  have hr := run_make (P := P) W t e i0 z ht hi hz0 .i64 .i64 (0 : Int) (m : Int) (by omega) (by omega)
    (by
      have h3 : ((i0.bytes * m : Nat) : Int) ≤ 281474976710656 := by rw [hz2, Nat.mul_comm]; omega
      rwa [Int.natCast_mul] at h3) (by omega)
  simp only [Int.toNat_natCast, Int.toNat_zero] at hr
  rw [hz1] at hr
  have hrun : (execOp a.eval o).run P W = .ok (.value (.slice (some ⟨W.heap.size, 0, none⟩) 0 m)) (W.alloc (.cells (madeCells z.cells (m * d.sz)) e)) := by simp [execOp, ho, hx, hy, hr]
  have hown : (W.alloc (.cells (madeCells z.cells (m * d.sz)) e)).ownsRow base e d.sz (.slice (some ⟨W.heap.size, 0, none⟩) 0 m) ([] : List α).length [] :=
    ⟨by simp, .inr ⟨W.heap.size, m, madeCells z.cells (m * d.sz), rfl, hbase, heap_alloc_new W _, Nat.zero_le _, by unfold maxLen; omega, by simp [madeCells], by simp⟩⟩
  refine Kd.event_run hgd hrun (h _ _ ⟨?_, [], hown, Reps.none _ _⟩ (HB.alloc hbase _) (World.grownBy_alloc W _ none) ⟨W.heap.size, rfl, Nat.le_refl _⟩)
  intro k hk
  have : W.heap.size = k := by simpa [Value.ownBlock] using hk
  subst this; exact hfresh
end
/-! ### calls in a region that only reads: behind draws -/
theorem quiet_add {P : Program} {f : FuncId} {args : Array Value} {w : World} {a n : Nat} {v : Value}
    (h : Calls P f args (w.drewN (a + n)) fun e w' => e = .returned v ∧ Drawn0 (w.drewN (a + n)) w') :
    Calls P f args (w.drewN (a + n)) fun e w'' => e = .returned v ∧ ∃ m, w'' = w.drewN (a + m) :=
  h.mono fun _ _ ⟨he, hd⟩ => by
    obtain ⟨m, hm⟩ := hd.out
    exact ⟨he, n + m, by rw [hm, World.drewN_drewN, Nat.add_assoc]⟩
theorem quiet_one {P : Program} {f : FuncId} {args : Array Value} {w : World} {n : Nat} {v : Value}
    (h : Calls P f args (w.drewN n) fun e w' => e = .returned v ∧ Drawn0 (w.drewN n) w') :
    Calls P f args (w.drewN n) fun e w'' => e = .returned v ∧ ∃ m, w'' = w.drewN m :=
  h.mono fun _ _ ⟨he, hd⟩ => by
    obtain ⟨m, hm⟩ := hd.out
    exact ⟨he, n + m, by rw [hm, World.drewN_drewN]⟩
/-! ### behind a call that makes memory: what was there reads as before -/
theorem bcell {W w1 : World} (hb : Below W.heap.size W w1) : (∀ b o, b < W.heap.size → w1.cell? ⟨b, o, none⟩ = W.cell? ⟨b, o, none⟩) ∧ (∀ b o, b < W.heap.size → w1.frozen? ⟨b, o, none⟩ = W.frozen? ⟨b, o, none⟩) :=
  ⟨fun b o h => hb.cell (p := ⟨b, o, none⟩) h, fun b o h => hb.frozen (p := ⟨b, o, none⟩) h⟩
/-! ### a struct of two cells behind a pointer, written whole -/
theorem two_cells {W : World} {g : Nat} {t : TypeId} {a b : Value} (h : W.heap[g]? = some (.cells #[a, b] t (0, 0))) (u v : Value) :
    (W.setCell ⟨g, 0, none⟩ u).cell? ⟨g, 0, none⟩ = some u ∧ ((W.setCell ⟨g, 0, none⟩ u).setCell ⟨g, 1, none⟩ v).cell? ⟨g, 0, none⟩ = some u ∧ ((W.setCell ⟨g, 0, none⟩ u).setCell ⟨g, 1, none⟩ v).cell? ⟨g, 1, none⟩ = some v := by
  refine ⟨?_, ?_, ?_⟩ <;> simp [World.setCell, World.cell?, Array.getElem?_modify, h]
theorem new_kept {w W1 : World} {o : Obj} {n : Nat} (hb : Below ((w.alloc o).drewN n).heap.size ((w.alloc o).drewN n) W1) : W1.heap[w.heap.size]? = some o ∧ Below w.heap.size w W1 := by
  have hs : ((w.alloc o).drewN n).heap.size = w.heap.size + 1 := by simp
  refine ⟨(hb.block w.heap.size (by rw [hs]; omega)).trans (heap_alloc_new w o), ?_⟩
  exact below_step (pw_below_drewN (below_alloc (Below.refl _ _) _) _) hb
theorem new_kept0 {w W1 : World} {o : Obj} (hb : Below (w.alloc o).heap.size (w.alloc o) W1) : W1.heap[w.heap.size]? = some o ∧ Below w.heap.size w W1 := new_kept (n := 0) hb
theorem bne_nil_ (l : List UInt8) : (l != []) = !l.isEmpty := by cases l <;> rfl

theorem info5 : (Tryd.prog.info? 5).map (fun i => (i.zero, i.size, i.bytes)) = some (some (.int .u8 0), 1, 1) := by kernel_rfl
theorem info33 : (Tryd.prog.info? 33).map (fun i => (i.zero, i.size, i.bytes)) = some (some (.int .u64 0), 1, 8) := by kernel_rfl
theorem info66 : (Tryd.prog.info? 66).map (fun i => (i.zero, i.size, i.bytes)) = some (some (.int .u32 0), 1, 4) := by kernel_rfl
-- the values' own types


/-! ### hopperref25_eight: function 51 -/
def hopperref25_eight.l0 : Nat → Int → List Int → Int → Option (ByteArray)
  | 0, _, _, _ => none
  | k + 1, x0, x3, x4 => if x4 < 8 then (if x3.length < 140737488355328 then (hopperref25_eight.l0 k (IntKind.u64.wrap (Int.tdiv x0 256)) (x3 ++ [(Int.tmod x0 256) % 256]) (wrap64 (x4 + 1))) else (none)) else (some (strOfNums x3))
def hopperref25_eight.f (k : Nat) (a0 : Int) : Option (ByteArray) := hopperref25_eight.l0 k a0 ([] : List Int) 0
theorem hopperref25_eight.mono_l : ∀ k, (∀ y0 y1 y2, LeO (hopperref25_eight.l0 k y0 y1 y2) (hopperref25_eight.l0 (k + 1) y0 y1 y2))
  | 0 => fun _ _ _ r h => by simp [hopperref25_eight.l0] at h
  | k + 1 => by
    have ih0 := hopperref25_eight.mono_l k
    · intro y0 y1 y2
      unfold hopperref25_eight.l0
      repeat' first
      | (with_reducible exact ih0 _ _ _)
      | (with_reducible exact LeO.refl _)
      | (with_reducible exact LeO.none _)
      | (with_reducible refine LeO.ite ?_ ?_)
      | (with_reducible refine LeO.bind ?_ (fun _ => ?_))
      | exact ih0 _ _ _
      | exact LeO.none _
      | refine LeO.ite ?_ ?_
      | refine LeO.bind ?_ (fun _ => ?_)
theorem hopperref25_eight.mono : ∀ a0 k, LeO (hopperref25_eight.f k a0) (hopperref25_eight.f (k + 1) a0) := by
  intro a0 k
  have ih0 := hopperref25_eight.mono_l k
  unfold hopperref25_eight.f
  repeat' first
      | (with_reducible exact ih0 _ _ _)
      | (with_reducible exact LeO.refl _)
      | (with_reducible exact LeO.none _)
      | (with_reducible refine LeO.ite ?_ ?_)
      | (with_reducible refine LeO.bind ?_ (fun _ => ?_))
      | exact ih0 _ _ _
      | exact LeO.none _
      | refine LeO.ite ?_ ?_
      | refine LeO.bind ?_ (fun _ => ?_)
set_option maxHeartbeats 8000000 in
set_option maxRecDepth 100000 in
theorem hopperref25_eight.calls (k : Nat) (a0 : Int) (r : ByteArray) (w : World) (h : hopperref25_eight.f k a0 = some r) :
    Calls Tryd.prog 51 #[.int .u64 a0] w fun e w' => e = .returned (.string r) ∧ Below w.heap.size w w' := by
  have HB := Aside0.mk (Below.refl w.heap.size w)
  have H : (hopperref25_eight.l0 k a0 ([] : List Int) 0) = some r := h
  clear h
  have H' := Aside0.mk H
  clear H
  go_enter Tryd.func51, Tryd.ntmps51
  go_wp2
  go_loopg [0, 3, 4] k (fun kq v0 v3 v4 w' => ∃ (x0_1 : Int) (x3_1 : List Int) (x4_1 : Int), v0 = .int .u64 x0_1 ∧ v4 = .int .i64 x4_1 ∧ Aside0 (hopperref25_eight.l0 kq x0_1 x3_1 x4_1 = some r) ∧ Aside0 (kq ≤ k) ∧ Aside0 (Kd.R (Kd.int .u8) 5 w' w.heap.size (fun _ => True) v3 x3_1) ∧ Aside0 (Below w.heap.size w w'))
  case atStart => exact ⟨(a0), (([] : List Int)), (0), (by first | rfl | (simp; done) | (simp [*]; done) | (simp [bne_nil_]; done)), (by first | rfl | (simp; done) | (simp [*]; done) | (simp [bne_nil_]; done)), H', ⟨Nat.le_refl _⟩, ⟨by first | exact Kd.R_nil _ _ _ _ _ | exact Kd.N_nil _ _ _ _ _ | exact Kd.V_nil _ _ _ _ _ | exact Kd.Q_nil _ _ _ _ _ | exact Kd.S_nil _ _ _ _ _⟩, ⟨by repeat (first | (with_reducible first | exact HB.out | apply below_alloc | apply pw_below_drewN | apply below_drew1) | exact HB.out)⟩⟩
  case round =>
    clear H'
    obtain ⟨x0_1, x3_1, x4_1, rfl, rfl, HA, HK1, HO_3, HB⟩ := hrel
    cases gk with
    | zero => exact absurd HA.out (by simp [hopperref25_eight.l0])
    | succ k1 =>
      have H := HA.out
      clear HA
      simp only [hopperref25_eight.l0] at H
      by_cases c2 : x4_1 < 8
      · rw [if_pos c2] at H
        have c2b0 : decide (x4_1 < 8) = true := decide_eq_true c2
        clear c2
        by_cases c3 : x3_1.length < 140737488355328
        · rw [if_pos c3] at H
          have LMc3 := Aside0.mk c3
          clear c3
          obtain ⟨y188, hy188⟩ : ∃ y_ : List Int, y_ = (x3_1 ++ [(Int.tmod x0_1 256) % 256]) := ⟨_, rfl⟩
          replace H : (hopperref25_eight.l0 k1 (IntKind.u64.wrap (Int.tdiv x0_1 256)) y188 (wrap64 (x4_1 + 1))) = some r := by first | (rw [hy188]; with_reducible exact H) | (have H2_ := (Option.bind_some _ _).symm.trans H; rw [hy188]; with_reducible exact H2_) | (have H2_ := (Option.bind_some _ _).symm.trans H; with_reducible exact H2_) | with_reducible exact H | (rw [hy188]; exact H) | exact H
          have Ny188 := Aside0.mk hy188
          clear hy188
          have H' := Aside0.mk H
          clear H
          go_wp2_with (first | ((with_reducible refine gate_builtin (b := .append) (xs := #[.tmp 9, .tmp 13]) rfl ?_); at_builtin; refine Kd.R_append (Kd.int .u8) (w0 := w) w.heap.size rfl (.tmp 9) (.tmp 13) 32 5 (.int .u8 0) 1 rfl Tryd.underlying32 info5 rfl (by decide) (by omega) u3 x3_1 ((Int.tmod x0_1 256) % 256) [.int .u8 ((Int.tmod x0_1 256) % 256)] (fun _ => True) (fun _ => False) rfl rfl ?aP (fun _ hk => hk.elim) ?aF ?aO ?aB ?aS ?aL ?_; (case aP => exact rfl); (case aB => exact (by repeat (first | (with_reducible first | exact HB.out | apply below_alloc | apply pw_below_drewN | apply below_drew1) | exact HB.out))); (case aF => exact (fun _ _ => trivial)); (case aO => exact (by (with_reducible repeat (first | apply Kd.R_alloc | apply Kd.R_drewN | apply Kd.R_drew)); exact HO_3.out)); (case aS => exact (below_size (by repeat (first | (with_reducible first | exact HB.out | apply below_alloc | apply pw_below_drewN | apply below_drew1) | exact HB.out)))); (case aL => have := LMc3.out; omega); intro v189 w4 ho hb hg hat; rw [← Ny188.out] at ho; have n0_ := Aside0.mk (hb); have n1_ := Aside0.mk (ho); clear HB; clear HO_3; have HB := n0_; have HO190 := n1_; clear n0_ n1_; clear ho hb hg hat))
          go_roundg k1
          case measure => have := HK1.out; omega
          case rel => exact ⟨(IntKind.u64.wrap (Int.tdiv x0_1 256)), (y188), (wrap64 (x4_1 + 1)), (by first | rfl | (simp; done) | (simp [*]; done) | (simp [bne_nil_]; done)), (by first | rfl | (simp; done) | (simp [*]; done) | (simp [bne_nil_]; done)), H', ⟨by have := HK1.out; omega⟩, ⟨by (with_reducible repeat (first | apply Kd.R_alloc | apply Kd.R_drewN | apply Kd.R_drew)); exact HO190.out⟩, ⟨by repeat (first | (with_reducible first | exact HB.out | apply below_alloc | apply pw_below_drewN | apply below_drew1) | exact HB.out)⟩⟩
        · rw [if_neg c3] at H
          exact absurd H (by simp)
      · rw [if_neg c2] at H
        have c2b0 : decide (x4_1 < 8) = false := decide_eq_false c2
        clear c2
        obtain rfl := Option.some.inj H
        have hcv5 := own_string (P := Tryd.prog) Tryd.underlying32 Tryd.underlying5 Tryd.underlying9 (Kd.own_of_R HO_3.out)
        go_wp2
        go_ret
        exact ⟨by first | rfl | (simp [errW_none, errW_some] <;> rfl) | (simp [*, errW_none, errW_some] <;> rfl), by repeat (first | (with_reducible first | exact HB.out | apply below_alloc | apply pw_below_drewN | apply below_drew1) | exact HB.out)⟩

-- NOT PRINTED: function 32 (hopperref25_Challenge)

/-! ### hopperlaw25_among: function 33 -/
def hopperlaw25_among.f (a0 : Int) (a1 : Int) : Option (Int) := if a1 = 0 then (none) else (some (Int.tmod (wrap64 ((Int.tmod a0 a1) + a1)) a1))
set_option maxHeartbeats 8000000 in
set_option maxRecDepth 100000 in
theorem hopperlaw25_among.calls (a0 : Int) (a1 : Int) (r : Int) (w : World) (h : hopperlaw25_among.f a0 a1 = some r) :
    Calls Tryd.prog 33 #[.int .i64 a0, .int .i64 a1] w fun e w' => e = .returned (.int .i64 r) ∧ Drawn0 w w' := by
  have H : (if a1 = 0 then (none) else (some (Int.tmod (wrap64 ((Int.tmod a0 a1) + a1)) a1))) = some r := h
  clear h
  by_cases c3 : a1 = 0
  · rw [if_pos c3] at H
    exact absurd H (by simp)
  · rw [if_neg c3] at H
    have c3b0 : (a1 == 0) = false := beq_eq_false_iff_ne.mpr c3
    have c3b1 : (a1 != 0) = true := bne_iff_ne.mpr c3
    obtain rfl := Option.some.inj H
    go_enter Tryd.func33, Tryd.ntmps33
    go_wp2
    go_ret
    exact ⟨by first | rfl | (simp; done) | (simp [*]; done), by repeat (first | exact Drawn0.refl _ | apply Drawn0.step)⟩

/-! ### hopperref01_Named: function 52 -/
mutual
def hopperref01_Named.j0 : Nat → ByteArray → Bool → Option (Bool)
  | 0, _, _ => none
  | k + 1, x0, x11 => if x11 = true then (some false) else (hopperref01_Named.l0 k x0 0)
def hopperref01_Named.l0 : Nat → ByteArray → Int → Option (Bool)
  | 0, _, _ => none
  | k + 1, x0, x3 => if x3 < (x0.size : Int) then (if 0 ≤ x3 then (if (bt x0 x3) ≥ 97 then (if (bt x0 x3) ≤ 122 then (hopperref01_Named.l0 k x0 (wrap64 (x3 + 1))) else (if (bt x0 x3) ≥ 48 then (if (bt x0 x3) ≤ 57 then (hopperref01_Named.l0 k x0 (wrap64 (x3 + 1))) else (if ((bt x0 x3) = 46) then (hopperref01_Named.l0 k x0 (wrap64 (x3 + 1))) else (some false))) else (if ((bt x0 x3) = 46) then (hopperref01_Named.l0 k x0 (wrap64 (x3 + 1))) else (some false)))) else (if (bt x0 x3) ≥ 48 then (if (bt x0 x3) ≤ 57 then (hopperref01_Named.l0 k x0 (wrap64 (x3 + 1))) else (if ((bt x0 x3) = 46) then (hopperref01_Named.l0 k x0 (wrap64 (x3 + 1))) else (some false))) else (if ((bt x0 x3) = 46) then (hopperref01_Named.l0 k x0 (wrap64 (x3 + 1))) else (some false)))) else (none)) else (some true)
end
def hopperref01_Named.f (k : Nat) (a0 : ByteArray) : Option (Bool) := if a0.toList = ([] : List UInt8) then (hopperref01_Named.j0 k a0 true) else (hopperref01_Named.j0 k a0 (decide ((a0.size : Int) > 32)))
theorem hopperref01_Named.mono_l : ∀ k, (∀ y0 y1, LeO (hopperref01_Named.j0 k y0 y1) (hopperref01_Named.j0 (k + 1) y0 y1)) ∧ (∀ y0 y1, LeO (hopperref01_Named.l0 k y0 y1) (hopperref01_Named.l0 (k + 1) y0 y1))
  | 0 => ⟨fun _ _ r h => by simp [hopperref01_Named.j0] at h, fun _ _ r h => by simp [hopperref01_Named.l0] at h⟩
  | k + 1 => by
    obtain ⟨ih0, ih1⟩ := hopperref01_Named.mono_l k
    refine ⟨?_, ?_⟩
    · intro y0 y1
      unfold hopperref01_Named.j0
      repeat' first
      | (with_reducible exact ih0 _ _)
      | (with_reducible exact ih1 _ _)
      | (with_reducible exact LeO.refl _)
      | (with_reducible exact LeO.none _)
      | (with_reducible refine LeO.ite ?_ ?_)
      | (with_reducible refine LeO.bind ?_ (fun _ => ?_))
      | exact ih0 _ _
      | exact ih1 _ _
      | exact LeO.none _
      | refine LeO.ite ?_ ?_
      | refine LeO.bind ?_ (fun _ => ?_)
    · intro y0 y1
      unfold hopperref01_Named.l0
      repeat' first
      | (with_reducible exact ih0 _ _)
      | (with_reducible exact ih1 _ _)
      | (with_reducible exact LeO.refl _)
      | (with_reducible exact LeO.none _)
      | (with_reducible refine LeO.ite ?_ ?_)
      | (with_reducible refine LeO.bind ?_ (fun _ => ?_))
      | exact ih0 _ _
      | exact ih1 _ _
      | exact LeO.none _
      | refine LeO.ite ?_ ?_
      | refine LeO.bind ?_ (fun _ => ?_)
theorem hopperref01_Named.mono : ∀ a0 k, LeO (hopperref01_Named.f k a0) (hopperref01_Named.f (k + 1) a0) := by
  intro a0 k
  obtain ⟨ih0, ih1⟩ := hopperref01_Named.mono_l k
  unfold hopperref01_Named.f
  repeat' first
      | (with_reducible exact ih0 _ _)
      | (with_reducible exact ih1 _ _)
      | (with_reducible exact LeO.refl _)
      | (with_reducible exact LeO.none _)
      | (with_reducible refine LeO.ite ?_ ?_)
      | (with_reducible refine LeO.bind ?_ (fun _ => ?_))
      | exact ih0 _ _
      | exact ih1 _ _
      | exact LeO.none _
      | refine LeO.ite ?_ ?_
      | refine LeO.bind ?_ (fun _ => ?_)
set_option maxHeartbeats 8000000 in
set_option maxRecDepth 100000 in
theorem hopperref01_Named.calls (k : Nat) (a0 : ByteArray) (r : Bool) (w : World) (h : hopperref01_Named.f k a0 = some r) :
    Calls Tryd.prog 52 #[.string a0] w fun e w' => e = .returned (.bool r) ∧ Drawn0 w w' := by
  have H : (if a0.toList = ([] : List UInt8) then (hopperref01_Named.j0 k a0 true) else (hopperref01_Named.j0 k a0 (decide ((a0.size : Int) > 32)))) = some r := h
  clear h
  have HC2 := Aside0.mk H
  clear H
  go_enter Tryd.func52, Tryd.ntmps52
  go_upto_region 1 with (fail)
  go_cut [11] (fun v11 wc => ∃ (kq : Nat) (x11_1 : Bool), v11 = .bool x11_1 ∧ Aside0 (hopperref01_Named.j0 kq a0 x11_1 = some r) ∧ Aside0 (kq ≤ k) ∧ Drawn0 w wc)
  case first =>
    have H := HC2.out
    clear HC2
    by_cases c3 : a0.toList = ([] : List UInt8)
    · rw [if_pos c3] at H
      have c3b0 : (a0.toList == ([] : List UInt8)) = true := beq_iff_eq.mpr c3
      have c3b1 : (a0.toList != ([] : List UInt8)) = false := bne_eq_false_iff_eq.mpr c3
      clear c3
      (first | rw [c3b0] | (simp only [i64_w, i32_w]; rw [c3b0]) | skip)
      have H' := Aside0.mk H
      clear H
      go_wp2
      go_meet
      case rel => exact ⟨_, (true), (by first | rfl | (simp; done) | (simp [*]; done) | (simp [bne_nil_]; done)), H', ⟨by first | omega | exact Nat.le_refl _⟩, by repeat (first | exact Drawn0.refl _ | apply Drawn0.step)⟩
    · rw [if_neg c3] at H
      have c3b0 : (a0.toList == ([] : List UInt8)) = false := beq_eq_false_iff_ne.mpr c3
      have c3b1 : (a0.toList != ([] : List UInt8)) = true := bne_iff_ne.mpr c3
      (first | rw [c3b0] | (simp only [i64_w, i32_w]; rw [c3b0]) | skip)
      have H' := Aside0.mk H
      clear H
      go_wp2
      go_meet
      case rel => exact ⟨_, (decide ((a0.size : Int) > 32)), (by first | rfl | (simp; done) | (simp [*]; done) | (simp [bne_nil_]; done)), H', ⟨by first | omega | exact Nat.le_refl _⟩, by repeat (first | exact Drawn0.refl _ | apply Drawn0.step)⟩
  case rest =>
    clear HC2
    try clear p2
    try clear c3
    try clear c3b0
    try clear c3b1
    obtain ⟨kq, x11_1, rfl, HA, HJ1, ⟨mc1, rfl⟩⟩ := hcut
    cases kq with
    | zero => exact absurd HA.out (by simp [hopperref01_Named.j0])
    | succ kj1 =>
      have H := HA.out
      clear HA
      simp only [hopperref01_Named.j0] at H
      by_cases c4 : x11_1 = true
      · subst c4
        have H1 : (some false) = some r := by rw [if_pos rfl] at H; exact H
        clear H
        have H := H1
        clear H1
        obtain rfl := Option.some.inj H
        go_wp2
        go_ret
        exact ⟨by first | rfl | (simp; done) | (simp [*]; done), by repeat (first | exact Drawn0.refl _ | apply Drawn0.step)⟩
      · replace c4 := Bool.eq_false_iff.mpr c4
        subst c4
        have H1 : (hopperref01_Named.l0 kj1 a0 0) = some r := by rw [if_neg (show ¬ (false = true) by decide)] at H; exact H
        clear H
        have H := H1
        clear H1
        have H' := Aside0.mk H
        clear H
        go_wp2
        go_loopg [3] kj1 (fun kq v3 w' => ∃ (x3_2 : Int), v3 = .int .i64 x3_2 ∧ Aside0 (hopperref01_Named.l0 kq a0 x3_2 = some r) ∧ Aside0 (kq ≤ kj1) ∧ Drawn0 w w')
        case atStart => exact ⟨(0), (by first | rfl | (simp; done) | (simp [*]; done) | (simp [bne_nil_]; done)), H', ⟨Nat.le_refl _⟩, by repeat (first | exact Drawn0.refl _ | apply Drawn0.step)⟩
        case round =>
          clear H'
          try clear c1
          try clear p2
          try clear c3
          try clear c3b0
          try clear c3b1
          try clear c4
          try clear p2
          obtain ⟨x3_2, rfl, HA, HK2, ⟨m2, rfl⟩⟩ := hrel
          cases gk with
          | zero => exact absurd HA.out (by simp [hopperref01_Named.l0])
          | succ k2 =>
            have H := HA.out
            clear HA
            simp only [hopperref01_Named.l0] at H
            by_cases c5 : x3_2 < (a0.size : Int)
            · rw [if_pos c5] at H
              have c5b0 : decide (x3_2 < (a0.size : Int)) = true := decide_eq_true c5
              clear c5
              by_cases c6 : 0 ≤ x3_2
              · rw [if_pos c6] at H
                have c6b0 : decide (0 ≤ x3_2) = true := decide_eq_true c6
                clear c6
                by_cases c8 : (bt a0 x3_2) ≥ 97
                · rw [if_pos c8] at H
                  have c8b0 : decide (97 ≤ (bt a0 x3_2)) = true := decide_eq_true c8
                  clear c8
                  by_cases c9 : (bt a0 x3_2) ≤ 122
                  · rw [if_pos c9] at H
                    have c9b0 : decide ((bt a0 x3_2) ≤ 122) = true := decide_eq_true c9
                    clear c9
                    have H' := Aside0.mk H
                    clear H
                    have p7 : 0 ≤ (x3_2 : Int) := of_decide_eq_true (by first | (with_reducible assumption) | assumption)
                    have q7 : x3_2 < (a0.size : Int) := of_decide_eq_true (by first | (with_reducible assumption) | assumption)
                    have hx7 := bt_at a0 x3_2
                    replace p7 := eq_true p7
                    replace q7 := eq_true q7
                    go_wp2
                    go_roundg k2
                    case measure => have := HJ1.out; have := HK2.out; omega
                    case rel => exact ⟨(wrap64 (x3_2 + 1)), (by first | rfl | (simp; done) | (simp [*]; done) | (simp [bne_nil_]; done)), H', ⟨by have := HJ1.out; have := HK2.out; omega⟩, by repeat (first | exact Drawn0.refl _ | apply Drawn0.step)⟩
                  · rw [if_neg c9] at H
                    have c9b0 : decide ((bt a0 x3_2) ≤ 122) = false := decide_eq_false c9
                    clear c9
                    by_cases c10 : (bt a0 x3_2) ≥ 48
                    · rw [if_pos c10] at H
                      have c10b0 : decide (48 ≤ (bt a0 x3_2)) = true := decide_eq_true c10
                      clear c10
                      by_cases c11 : (bt a0 x3_2) ≤ 57
                      · rw [if_pos c11] at H
                        have c11b0 : decide ((bt a0 x3_2) ≤ 57) = true := decide_eq_true c11
                        clear c11
                        have H' := Aside0.mk H
                        clear H
                        have p7 : 0 ≤ (x3_2 : Int) := of_decide_eq_true (by first | (with_reducible assumption) | assumption)
                        have q7 : x3_2 < (a0.size : Int) := of_decide_eq_true (by first | (with_reducible assumption) | assumption)
                        have hx7 := bt_at a0 x3_2
                        replace p7 := eq_true p7
                        replace q7 := eq_true q7
                        go_wp2
                        go_roundg k2
                        case measure => have := HJ1.out; have := HK2.out; omega
                        case rel => exact ⟨(wrap64 (x3_2 + 1)), (by first | rfl | (simp; done) | (simp [*]; done) | (simp [bne_nil_]; done)), H', ⟨by have := HJ1.out; have := HK2.out; omega⟩, by repeat (first | exact Drawn0.refl _ | apply Drawn0.step)⟩
                      · rw [if_neg c11] at H
                        have c11b0 : decide ((bt a0 x3_2) ≤ 57) = false := decide_eq_false c11
                        clear c11
                        by_cases c12 : ((bt a0 x3_2) = 46)
                        · rw [if_pos c12] at H
                          have c12b0 : ((bt a0 x3_2) == 46) = true := beq_iff_eq.mpr c12
                          have c12b1 : ((bt a0 x3_2) != 46) = false := bne_eq_false_iff_eq.mpr c12
                          clear c12
                          have H' := Aside0.mk H
                          clear H
                          have p7 : 0 ≤ (x3_2 : Int) := of_decide_eq_true (by first | (with_reducible assumption) | assumption)
                          have q7 : x3_2 < (a0.size : Int) := of_decide_eq_true (by first | (with_reducible assumption) | assumption)
                          have hx7 := bt_at a0 x3_2
                          replace p7 := eq_true p7
                          replace q7 := eq_true q7
                          go_wp2
                          go_roundg k2
                          case measure => have := HJ1.out; have := HK2.out; omega
                          case rel => exact ⟨(wrap64 (x3_2 + 1)), (by first | rfl | (simp; done) | (simp [*]; done) | (simp [bne_nil_]; done)), H', ⟨by have := HJ1.out; have := HK2.out; omega⟩, by repeat (first | exact Drawn0.refl _ | apply Drawn0.step)⟩
                        · rw [if_neg c12] at H
                          have c12b0 : ((bt a0 x3_2) == 46) = false := beq_eq_false_iff_ne.mpr c12
                          have c12b1 : ((bt a0 x3_2) != 46) = true := bne_iff_ne.mpr c12
                          obtain rfl := Option.some.inj H
                          have p7 : 0 ≤ (x3_2 : Int) := of_decide_eq_true (by first | (with_reducible assumption) | assumption)
                          have q7 : x3_2 < (a0.size : Int) := of_decide_eq_true (by first | (with_reducible assumption) | assumption)
                          have hx7 := bt_at a0 x3_2
                          replace p7 := eq_true p7
                          replace q7 := eq_true q7
                          go_wp2
                          go_ret
                          exact ⟨by first | rfl | (simp; done) | (simp [*]; done), by repeat (first | exact Drawn0.refl _ | apply Drawn0.step)⟩
                    · rw [if_neg c10] at H
                      have c10b0 : decide (48 ≤ (bt a0 x3_2)) = false := decide_eq_false c10
                      clear c10
                      by_cases c13 : ((bt a0 x3_2) = 46)
                      · rw [if_pos c13] at H
                        have c13b0 : ((bt a0 x3_2) == 46) = true := beq_iff_eq.mpr c13
                        have c13b1 : ((bt a0 x3_2) != 46) = false := bne_eq_false_iff_eq.mpr c13
                        clear c13
                        have H' := Aside0.mk H
                        clear H
                        have p7 : 0 ≤ (x3_2 : Int) := of_decide_eq_true (by first | (with_reducible assumption) | assumption)
                        have q7 : x3_2 < (a0.size : Int) := of_decide_eq_true (by first | (with_reducible assumption) | assumption)
                        have hx7 := bt_at a0 x3_2
                        replace p7 := eq_true p7
                        replace q7 := eq_true q7
                        go_wp2
                        go_roundg k2
                        case measure => have := HJ1.out; have := HK2.out; omega
                        case rel => exact ⟨(wrap64 (x3_2 + 1)), (by first | rfl | (simp; done) | (simp [*]; done) | (simp [bne_nil_]; done)), H', ⟨by have := HJ1.out; have := HK2.out; omega⟩, by repeat (first | exact Drawn0.refl _ | apply Drawn0.step)⟩
                      · rw [if_neg c13] at H
                        have c13b0 : ((bt a0 x3_2) == 46) = false := beq_eq_false_iff_ne.mpr c13
                        have c13b1 : ((bt a0 x3_2) != 46) = true := bne_iff_ne.mpr c13
                        obtain rfl := Option.some.inj H
                        have p7 : 0 ≤ (x3_2 : Int) := of_decide_eq_true (by first | (with_reducible assumption) | assumption)
                        have q7 : x3_2 < (a0.size : Int) := of_decide_eq_true (by first | (with_reducible assumption) | assumption)
                        have hx7 := bt_at a0 x3_2
                        replace p7 := eq_true p7
                        replace q7 := eq_true q7
                        go_wp2
                        go_ret
                        exact ⟨by first | rfl | (simp; done) | (simp [*]; done), by repeat (first | exact Drawn0.refl _ | apply Drawn0.step)⟩
                · rw [if_neg c8] at H
                  have c8b0 : decide (97 ≤ (bt a0 x3_2)) = false := decide_eq_false c8
                  clear c8
                  by_cases c14 : (bt a0 x3_2) ≥ 48
                  · rw [if_pos c14] at H
                    have c14b0 : decide (48 ≤ (bt a0 x3_2)) = true := decide_eq_true c14
                    clear c14
                    by_cases c15 : (bt a0 x3_2) ≤ 57
                    · rw [if_pos c15] at H
                      have c15b0 : decide ((bt a0 x3_2) ≤ 57) = true := decide_eq_true c15
                      clear c15
                      have H' := Aside0.mk H
                      clear H
                      have p7 : 0 ≤ (x3_2 : Int) := of_decide_eq_true (by first | (with_reducible assumption) | assumption)
                      have q7 : x3_2 < (a0.size : Int) := of_decide_eq_true (by first | (with_reducible assumption) | assumption)
                      have hx7 := bt_at a0 x3_2
                      replace p7 := eq_true p7
                      replace q7 := eq_true q7
                      go_wp2
                      go_roundg k2
                      case measure => have := HJ1.out; have := HK2.out; omega
                      case rel => exact ⟨(wrap64 (x3_2 + 1)), (by first | rfl | (simp; done) | (simp [*]; done) | (simp [bne_nil_]; done)), H', ⟨by have := HJ1.out; have := HK2.out; omega⟩, by repeat (first | exact Drawn0.refl _ | apply Drawn0.step)⟩
                    · rw [if_neg c15] at H
                      have c15b0 : decide ((bt a0 x3_2) ≤ 57) = false := decide_eq_false c15
                      clear c15
                      by_cases c16 : ((bt a0 x3_2) = 46)
                      · rw [if_pos c16] at H
                        have c16b0 : ((bt a0 x3_2) == 46) = true := beq_iff_eq.mpr c16
                        have c16b1 : ((bt a0 x3_2) != 46) = false := bne_eq_false_iff_eq.mpr c16
                        clear c16
                        have H' := Aside0.mk H
                        clear H
                        have p7 : 0 ≤ (x3_2 : Int) := of_decide_eq_true (by first | (with_reducible assumption) | assumption)
                        have q7 : x3_2 < (a0.size : Int) := of_decide_eq_true (by first | (with_reducible assumption) | assumption)
                        have hx7 := bt_at a0 x3_2
                        replace p7 := eq_true p7
                        replace q7 := eq_true q7
                        go_wp2
                        go_roundg k2
                        case measure => have := HJ1.out; have := HK2.out; omega
                        case rel => exact ⟨(wrap64 (x3_2 + 1)), (by first | rfl | (simp; done) | (simp [*]; done) | (simp [bne_nil_]; done)), H', ⟨by have := HJ1.out; have := HK2.out; omega⟩, by repeat (first | exact Drawn0.refl _ | apply Drawn0.step)⟩
                      · rw [if_neg c16] at H
                        have c16b0 : ((bt a0 x3_2) == 46) = false := beq_eq_false_iff_ne.mpr c16
                        have c16b1 : ((bt a0 x3_2) != 46) = true := bne_iff_ne.mpr c16
                        obtain rfl := Option.some.inj H
                        have p7 : 0 ≤ (x3_2 : Int) := of_decide_eq_true (by first | (with_reducible assumption) | assumption)
                        have q7 : x3_2 < (a0.size : Int) := of_decide_eq_true (by first | (with_reducible assumption) | assumption)
                        have hx7 := bt_at a0 x3_2
                        replace p7 := eq_true p7
                        replace q7 := eq_true q7
                        go_wp2
                        go_ret
                        exact ⟨by first | rfl | (simp; done) | (simp [*]; done), by repeat (first | exact Drawn0.refl _ | apply Drawn0.step)⟩
                  · rw [if_neg c14] at H
                    have c14b0 : decide (48 ≤ (bt a0 x3_2)) = false := decide_eq_false c14
                    clear c14
                    by_cases c17 : ((bt a0 x3_2) = 46)
                    · rw [if_pos c17] at H
                      have c17b0 : ((bt a0 x3_2) == 46) = true := beq_iff_eq.mpr c17
                      have c17b1 : ((bt a0 x3_2) != 46) = false := bne_eq_false_iff_eq.mpr c17
                      clear c17
                      have H' := Aside0.mk H
                      clear H
                      have p7 : 0 ≤ (x3_2 : Int) := of_decide_eq_true (by first | (with_reducible assumption) | assumption)
                      have q7 : x3_2 < (a0.size : Int) := of_decide_eq_true (by first | (with_reducible assumption) | assumption)
                      have hx7 := bt_at a0 x3_2
                      replace p7 := eq_true p7
                      replace q7 := eq_true q7
                      go_wp2
                      go_roundg k2
                      case measure => have := HJ1.out; have := HK2.out; omega
                      case rel => exact ⟨(wrap64 (x3_2 + 1)), (by first | rfl | (simp; done) | (simp [*]; done) | (simp [bne_nil_]; done)), H', ⟨by have := HJ1.out; have := HK2.out; omega⟩, by repeat (first | exact Drawn0.refl _ | apply Drawn0.step)⟩
                    · rw [if_neg c17] at H
                      have c17b0 : ((bt a0 x3_2) == 46) = false := beq_eq_false_iff_ne.mpr c17
                      have c17b1 : ((bt a0 x3_2) != 46) = true := bne_iff_ne.mpr c17
                      obtain rfl := Option.some.inj H
                      have p7 : 0 ≤ (x3_2 : Int) := of_decide_eq_true (by first | (with_reducible assumption) | assumption)
                      have q7 : x3_2 < (a0.size : Int) := of_decide_eq_true (by first | (with_reducible assumption) | assumption)
                      have hx7 := bt_at a0 x3_2
                      replace p7 := eq_true p7
                      replace q7 := eq_true q7
                      go_wp2
                      go_ret
                      exact ⟨by first | rfl | (simp; done) | (simp [*]; done), by repeat (first | exact Drawn0.refl _ | apply Drawn0.step)⟩
              · rw [if_neg c6] at H
                exact absurd H (by simp)
            · rw [if_neg c5] at H
              have c5b0 : decide (x3_2 < (a0.size : Int)) = false := decide_eq_false c5
              clear c5
              obtain rfl := Option.some.inj H
              go_wp2
              go_ret
              exact ⟨by first | rfl | (simp; done) | (simp [*]; done), by repeat (first | exact Drawn0.refl _ | apply Drawn0.step)⟩

-- NOT PRINTED: function 53 (hopperref25_Keys_place)

-- NOT PRINTED: function 34 (hopperref25_Keys_Put)

-- NOT PRINTED: function 35 (hopperref25_Keys_Take)

/-! ### hopperbook_SameTexts: function 38 -/
def hopperbook_SameTexts.l0 : Nat → List ByteArray → List ByteArray → Int → Option (Bool)
  | 0, _, _, _ => none
  | k + 1, x0, x1, x5 => if x5 < (x0.length : Int) then (if 0 ≤ x5 then (if x5 < (x1.length : Int) then (if (rdOf ByteArray.empty x0 x5).toList = (rdOf ByteArray.empty x1 x5).toList then (hopperbook_SameTexts.l0 k x0 x1 (wrap64 (x5 + 1))) else (some false)) else (none)) else (none)) else (some true)
def hopperbook_SameTexts.f (k : Nat) (l0 : List ByteArray) (l1 : List ByteArray) : Option (Bool) := if (l0.length : Int) = (l1.length : Int) then (hopperbook_SameTexts.l0 k l0 l1 0) else (some false)
theorem hopperbook_SameTexts.mono_l : ∀ k, (∀ y0 y1 y2, LeO (hopperbook_SameTexts.l0 k y0 y1 y2) (hopperbook_SameTexts.l0 (k + 1) y0 y1 y2))
  | 0 => fun _ _ _ r h => by simp [hopperbook_SameTexts.l0] at h
  | k + 1 => by
    have ih0 := hopperbook_SameTexts.mono_l k
    · intro y0 y1 y2
      unfold hopperbook_SameTexts.l0
      repeat' first
      | (with_reducible exact ih0 _ _ _)
      | (with_reducible exact LeO.refl _)
      | (with_reducible exact LeO.none _)
      | (with_reducible refine LeO.ite ?_ ?_)
      | (with_reducible refine LeO.bind ?_ (fun _ => ?_))
      | exact ih0 _ _ _
      | exact LeO.none _
      | refine LeO.ite ?_ ?_
      | refine LeO.bind ?_ (fun _ => ?_)
theorem hopperbook_SameTexts.mono : ∀ a0 a1 k, LeO (hopperbook_SameTexts.f k a0 a1) (hopperbook_SameTexts.f (k + 1) a0 a1) := by
  intro a0 a1 k
  have ih0 := hopperbook_SameTexts.mono_l k
  unfold hopperbook_SameTexts.f
  repeat' first
      | (with_reducible exact ih0 _ _ _)
      | (with_reducible exact LeO.refl _)
      | (with_reducible exact LeO.none _)
      | (with_reducible refine LeO.ite ?_ ?_)
      | (with_reducible refine LeO.bind ?_ (fun _ => ?_))
      | exact ih0 _ _ _
      | exact LeO.none _
      | refine LeO.ite ?_ ?_
      | refine LeO.bind ?_ (fun _ => ?_)
set_option maxHeartbeats 8000000 in
set_option maxRecDepth 100000 in
theorem hopperbook_SameTexts.calls (k : Nat) (A0 : Option Addr) (c0 : Nat) (l0 : List ByteArray) (A1 : Option Addr) (c1 : Nat) (l1 : List ByteArray) (r : Bool) (w : World) (hr0 : Kd.C Kd.string w A0 l0.length l0) (hc0 : l0.length ≤ c0) (hr1 : Kd.C Kd.string w A1 l1.length l1) (hc1 : l1.length ≤ c1) (h : hopperbook_SameTexts.f k l0 l1 = some r) :
    Calls Tryd.prog 38 #[.slice A0 l0.length c0, .slice A1 l1.length c1] w fun e w' => e = .returned (.bool r) ∧ Drawn0 w w' := by
  have HR0 := Aside0.mk hr0
  have HC0 := Aside0.mk hc0
  clear hr0 hc0
  have HR1 := Aside0.mk hr1
  have HC1 := Aside0.mk hc1
  clear hr1 hc1
  have H : (if (l0.length : Int) = (l1.length : Int) then (hopperbook_SameTexts.l0 k l0 l1 0) else (some false)) = some r := h
  clear h
  by_cases c3 : (l0.length : Int) = (l1.length : Int)
  · rw [if_pos c3] at H
    have c3b0 : ((l0.length : Int) == (l1.length : Int)) = true := beq_iff_eq.mpr c3
    have c3b1 : ((l0.length : Int) != (l1.length : Int)) = false := bne_eq_false_iff_eq.mpr c3
    have c3b2 : (l0.length == l1.length) = true := by first | simpa using c3 | (simp at c3 ⊢; omega)
    clear c3
    have H' := Aside0.mk H
    clear H
    go_enter Tryd.func38, Tryd.ntmps38
    go_wp2
    repeat (go_quiet (fail); try go_wp2)
    go_loopg [5] k (fun kq v5 w' => ∃ (x5_1 : Int), v5 = .int .i64 x5_1 ∧ Aside0 (hopperbook_SameTexts.l0 kq l0 l1 x5_1 = some r) ∧ Aside0 (kq ≤ k) ∧ Drawn0 w w')
    case atStart => exact ⟨(0), (by first | rfl | (simp; done) | (simp [*]; done) | (simp [bne_nil_]; done)), H', ⟨Nat.le_refl _⟩, by repeat (first | exact Drawn0.refl _ | apply Drawn0.step)⟩
    case round =>
      clear H'
      try clear c1
      try clear p2
      try clear c3
      try clear c3b0
      try clear c3b1
      try clear c3b2
      obtain ⟨x5_1, rfl, HA, HK1, ⟨m1, rfl⟩⟩ := hrel
      cases gk with
      | zero => exact absurd HA.out (by simp [hopperbook_SameTexts.l0])
      | succ k1 =>
        have H := HA.out
        clear HA
        simp only [hopperbook_SameTexts.l0] at H
        by_cases c4 : x5_1 < (l0.length : Int)
        · rw [if_pos c4] at H
          have c4b0 : decide (x5_1 < (l0.length : Int)) = true := decide_eq_true c4
          clear c4
          by_cases c5 : 0 ≤ x5_1
          · rw [if_pos c5] at H
            have c5b0 : decide (0 ≤ x5_1) = true := decide_eq_true c5
            clear c5
            by_cases c6 : x5_1 < (l1.length : Int)
            · rw [if_pos c6] at H
              have c6b0 : decide (x5_1 < (l1.length : Int)) = true := decide_eq_true c6
              clear c6
              by_cases c7 : (rdOf ByteArray.empty l0 x5_1).toList = (rdOf ByteArray.empty l1 x5_1).toList
              · rw [if_pos c7] at H
                have c7b0 : ((rdOf ByteArray.empty l0 x5_1).toList == (rdOf ByteArray.empty l1 x5_1).toList) = true := beq_iff_eq.mpr c7
                have c7b1 : ((rdOf ByteArray.empty l0 x5_1).toList != (rdOf ByteArray.empty l1 x5_1).toList) = false := bne_eq_false_iff_eq.mpr c7
                clear c7
                have H' := Aside0.mk H
                clear H
                have p204 : 0 ≤ (x5_1 : Int) := of_decide_eq_true (by first | (with_reducible assumption) | assumption)
                have q204 : x5_1 < (l0.length : Int) := of_decide_eq_true (by first | (with_reducible assumption) | assumption)
                obtain ⟨ad204, e204, hx204_0⟩ := Kd.at_string HR0.out x5_1 p204 q204
                cases e204
                replace p204 := eq_true p204
                replace q204 := eq_true q204
                have p205 : 0 ≤ (x5_1 : Int) := of_decide_eq_true (by first | (with_reducible assumption) | assumption)
                have q205 : x5_1 < (l1.length : Int) := of_decide_eq_true (by first | (with_reducible assumption) | assumption)
                obtain ⟨ad205, e205, hx205_0⟩ := Kd.at_string HR1.out x5_1 p205 q205
                cases e205
                replace p205 := eq_true p205
                replace q205 := eq_true q205
                go_wp2
                repeat (go_quiet (fail); try go_wp2)
                go_roundg k1
                case measure => have := HK1.out; omega
                case rel => exact ⟨(wrap64 (x5_1 + 1)), (by first | rfl | (simp; done) | (simp [*]; done) | (simp [bne_nil_]; done)), H', ⟨by have := HK1.out; omega⟩, by repeat (first | exact Drawn0.refl _ | apply Drawn0.step)⟩
              · rw [if_neg c7] at H
                have c7b0 : ((rdOf ByteArray.empty l0 x5_1).toList == (rdOf ByteArray.empty l1 x5_1).toList) = false := beq_eq_false_iff_ne.mpr c7
                have c7b1 : ((rdOf ByteArray.empty l0 x5_1).toList != (rdOf ByteArray.empty l1 x5_1).toList) = true := bne_iff_ne.mpr c7
                obtain rfl := Option.some.inj H
                have p204 : 0 ≤ (x5_1 : Int) := of_decide_eq_true (by first | (with_reducible assumption) | assumption)
                have q204 : x5_1 < (l0.length : Int) := of_decide_eq_true (by first | (with_reducible assumption) | assumption)
                obtain ⟨ad204, e204, hx204_0⟩ := Kd.at_string HR0.out x5_1 p204 q204
                cases e204
                replace p204 := eq_true p204
                replace q204 := eq_true q204
                have p205 : 0 ≤ (x5_1 : Int) := of_decide_eq_true (by first | (with_reducible assumption) | assumption)
                have q205 : x5_1 < (l1.length : Int) := of_decide_eq_true (by first | (with_reducible assumption) | assumption)
                obtain ⟨ad205, e205, hx205_0⟩ := Kd.at_string HR1.out x5_1 p205 q205
                cases e205
                replace p205 := eq_true p205
                replace q205 := eq_true q205
                go_wp2
                repeat (go_quiet (fail); try go_wp2)
                go_ret
                exact ⟨by first | rfl | (simp; done) | (simp [*]; done), by repeat (first | exact Drawn0.refl _ | apply Drawn0.step)⟩
            · rw [if_neg c6] at H
              exact absurd H (by simp)
          · rw [if_neg c5] at H
            exact absurd H (by simp)
        · rw [if_neg c4] at H
          have c4b0 : decide (x5_1 < (l0.length : Int)) = false := decide_eq_false c4
          clear c4
          obtain rfl := Option.some.inj H
          go_wp2
          repeat (go_quiet (fail); try go_wp2)
          go_ret
          exact ⟨by first | rfl | (simp; done) | (simp [*]; done), by repeat (first | exact Drawn0.refl _ | apply Drawn0.step)⟩
  · rw [if_neg c3] at H
    have c3b0 : ((l0.length : Int) == (l1.length : Int)) = false := beq_eq_false_iff_ne.mpr c3
    have c3b1 : ((l0.length : Int) != (l1.length : Int)) = true := bne_iff_ne.mpr c3
    have c3b2 : (l0.length == l1.length) = false := by first | simpa using c3 | (simp at c3 ⊢; omega)
    obtain rfl := Option.some.inj H
    go_enter Tryd.func38, Tryd.ntmps38
    go_wp2
    repeat (go_quiet (fail); try go_wp2)
    go_ret
    exact ⟨by first | rfl | (simp; done) | (simp [*]; done), by repeat (first | exact Drawn0.refl _ | apply Drawn0.step)⟩

-- NOT PRINTED: function 72 (slices_AppendSeq_string_string)

-- NOT PRINTED: function 61 (slices_Collect_string)
end Go.Proofs.YtdnmllodefbekaaDoor.HAuthPlays
end

section
namespace Go.Proofs.YtdnmllodefbekaaDoor.Au
open Go.RowKit Go.Lib Go.Shelf Go.Proofs.YtdnmllodefbekaaDoor.Sha Go.Proofs.YtdnmllodefbekaaDoor.HAuthPlays Go.Proofs.YtdnmllodefbekaaDoorW.PrintWords Go.Proofs.YtdnmllodefbekaaDoorW.PrintLast Go.Proofs.YtdnmllodefbekaaDoorW.PrintMore
set_option linter.unusedVariables false
set_option linter.unusedSimpArgs false
def up (n : Int) (t : Nat) : List Int := (List.range t).map (byteAt n)
theorem up_succ (n : Int) (t : Nat) : up n (t + 1) = up n t ++ [byteAt n t] := by unfold up; rw [List.range_succ, List.map_append]; rfl
theorem up_len (n : Int) (t : Nat) : (up n t).length = t := by simp [up]
theorem up_eight (n : Int) : up n 8 = eightL n 8 := by
  unfold up eightL
  refine List.map_congr_left fun i hi => ?_
  rw [if_pos (List.mem_range.1 hi)]
theorem eight_l (n : Int) (h0 : 0 ≤ n) (h1 : n < 18446744073709551616) : ∀ (k t : Nat), t + k = 8 → hopperref25_eight.l0 (k + 1) (n / 2 ^ (8 * t)) (up n t) (t : Int) = some (eightS n)
  | 0, t, h => by
    obtain rfl : t = 8 := by omega
    rw [hopperref25_eight.l0, if_neg (by omega), up_eight]
    rfl
  | k + 1, t, h => by
    rw [hopperref25_eight.l0, if_pos (by omega), if_pos (by rw [up_len]; omega)]
    have hp : 0 ≤ n / 2 ^ (8 * t) := Int.ediv_nonneg h0 (Int.le_of_lt (Int.pow_pos (by decide)))
    have hle : n / 2 ^ (8 * t) ≤ n := Int.ediv_le_self _ h0
    have e1 : Int.tmod (n / 2 ^ (8 * t)) 256 % 256 = byteAt n t := by
      rw [Int.tmod_eq_emod_of_nonneg hp]
      unfold byteAt
      omega
    have e2 : IntKind.u64.wrap (Int.tdiv (n / 2 ^ (8 * t)) 256) = n / 2 ^ (8 * (t + 1)) := by
      rw [Int.tdiv_eq_ediv_of_nonneg hp, IntKind.wrap_u64, Nat.mul_add, Nat.mul_one, Int.pow_add, show (2 : Int) ^ 8 = 256 from rfl, ← Int.ediv_ediv_of_nonneg (Int.le_of_lt (Int.pow_pos (by decide)))]
      omega
    have e3 : wrap64 ((t : Int) + 1) = ((t + 1 : Nat) : Int) := by unfold wrap64; omega
    rw [e1, e2, e3, ← up_succ]
    exact eight_l n h0 h1 k (t + 1) (by omega)
theorem reight_walk (n : Int) (h0 : 0 ≤ n) (h1 : n < 18446744073709551616) (w : World) : Calls Tryd.prog 51 #[.int .u64 n] w fun e w' => e = .returned (.string (eightS n)) ∧ Below w.heap.size w w' := by
  refine hopperref25_eight.calls 9 n (eightS n) w ?_
  have := eight_l n h0 h1 8 0 rfl
  rw [show n / 2 ^ (8 * 0) = n from by simp] at this
  exact this
def nameC (c : UInt8) : Bool := (97 ≤ c && c ≤ 122) || (48 ≤ c && c ≤ 57) || c == 46
theorem nameC_cut : ∀ c : UInt8, cutB.data.toList.contains c = nameC c := by
  have h : ∀ i : Fin 256, cutB.data.toList.contains (UInt8.ofNat i.val) = nameC (UInt8.ofNat i.val) := by decide +kernel
  intro c
  have := h ⟨c.toNat, c.toNat_lt⟩
  simpa using this
theorem drop_nil (p : UInt8 → Bool) : ∀ l : List UInt8, (l.dropWhile p).isEmpty = l.all p
  | [] => rfl
  | x :: r => by
    rw [List.dropWhile_cons, List.all_cons]
    cases h : p x with
    | true => simp [drop_nil p r]
    | false => simp
theorem drop_all {p : UInt8 → Bool} {l : List UInt8} (h : l.all p = true) : l.dropWhile p = [] := by
  have := drop_nil p l
  rw [h] at this
  simpa using this
theorem drop_head {p : UInt8 → Bool} {x : UInt8} {r : List UInt8} : ∀ {l : List UInt8}, l.dropWhile p = x :: r → p x = false
  | [], h => by cases h
  | y :: l, h => by
    rw [List.dropWhile_cons] at h
    split at h
    · exact drop_head h
    · rename_i hy
      cases h
      simpa using hy
theorem trim_all (l : List UInt8) : (trimS l cutB.data.toList).isEmpty = l.all nameC := by
  have hc : (fun c => cutB.data.toList.contains c) = nameC := funext nameC_cut
  unfold trimS trimLeftS trimRightS
  rw [hc, drop_nil]
  cases ha : l.all nameC with
  | true =>
    rw [drop_all (by rw [List.all_reverse]; exact ha)]
    rfl
  | false =>
    rw [Bool.eq_false_iff]
    intro h
    rw [List.all_reverse] at h
    have hr : l.reverse.all nameC = false := by rw [List.all_reverse]; exact ha
    -- what is left of the turned list begins with a byte that may not be
    cases hd : l.reverse.dropWhile nameC with
    | nil =>
      have := drop_nil nameC l.reverse
      rw [hd, hr] at this
      cases this
    | cons x r =>
      have hx := drop_head hd
      rw [hd] at h
      rw [List.all_cons, hx] at h
      cases h
theorem nameOk_all (s : ByteArray) : nameOk s = (!s.data.toList.isEmpty && decide (s.size ≤ 32) && s.data.toList.all nameC) := by
  unfold nameOk
  rw [trim_all]
theorem c_yes {c : UInt8} (h : (97 ≤ (c.toNat : Int) ∧ (c.toNat : Int) ≤ 122) ∨ (48 ≤ (c.toNat : Int) ∧ (c.toNat : Int) ≤ 57) ∨ (c.toNat : Int) = 46) : nameC c = true := by
  unfold nameC
  simp only [Bool.or_eq_true, Bool.and_eq_true, decide_eq_true_eq, beq_iff_eq, UInt8.le_iff_toNat_le, ← UInt8.toNat_inj]
  have e1 : (97 : UInt8).toNat = 97 := rfl
  have e2 : (122 : UInt8).toNat = 122 := rfl
  have e3 : (48 : UInt8).toNat = 48 := rfl
  have e4 : (57 : UInt8).toNat = 57 := rfl
  have e5 : (46 : UInt8).toNat = 46 := rfl
  omega
theorem c_no {c : UInt8} (h : ¬ ((97 ≤ (c.toNat : Int) ∧ (c.toNat : Int) ≤ 122) ∨ (48 ≤ (c.toNat : Int) ∧ (c.toNat : Int) ≤ 57) ∨ (c.toNat : Int) = 46)) : nameC c = false := by
  rw [Bool.eq_false_iff]
  intro hc
  apply h
  unfold nameC at hc
  simp only [Bool.or_eq_true, Bool.and_eq_true, decide_eq_true_eq, beq_iff_eq, UInt8.le_iff_toNat_le, ← UInt8.toNat_inj] at hc
  have e1 : (97 : UInt8).toNat = 97 := rfl
  have e2 : (122 : UInt8).toNat = 122 := rfl
  have e3 : (48 : UInt8).toNat = 48 := rfl
  have e4 : (57 : UInt8).toNat = 57 := rfl
  have e5 : (46 : UInt8).toNat = 46 := rfl
  omega
theorem named_l (s : ByteArray) (hs : s.size ≤ 1000000) : ∀ (k p : Nat), p ≤ s.size → s.size < p + k → hopperref01_Named.l0 k s (p : Int) = some ((s.data.toList.drop p).all nameC)
  | 0, p, h1, h2 => by omega
  | k + 1, p, h1, h2 => by
    rw [hopperref01_Named.l0]
    by_cases q : p < s.size
    · have e3 : wrap64 ((p : Int) + 1) = ((p + 1 : Nat) : Int) := by unfold wrap64; omega
      have hlt : p < s.data.toList.length := by rw [Array.length_toList]; exact q
      have hb : bt s (p : Int) = ((s.data.toList[p]).toNat : Int) := by
        unfold bt
        rw [dif_pos (by simpa using q)]
        rfl
      rw [if_pos (by omega), if_pos (by omega), e3, named_l s hs k (p + 1) (by omega) (by omega), List.drop_eq_getElem_cons hlt, List.all_cons, hb]
      generalize s.data.toList[p] = c
      by_cases hc : (97 ≤ (c.toNat : Int) ∧ (c.toNat : Int) ≤ 122) ∨ (48 ≤ (c.toNat : Int) ∧ (c.toNat : Int) ≤ 57) ∨ (c.toNat : Int) = 46
      · rw [c_yes hc, Bool.true_and]
        repeat' split
        all_goals first | rfl | omega
      · rw [c_no hc, Bool.false_and]
        repeat' split
        all_goals first | rfl | omega
    · rw [if_neg (by omega), List.drop_of_length_le (by rw [Array.length_toList]; exact Nat.le_of_not_lt q)]
      rfl
theorem named_f (s : ByteArray) : hopperref01_Named.f 40 s = some (nameOk s) := by
  unfold hopperref01_Named.f
  rw [nameOk_all, ByteArray.toList_eq]
  by_cases h0 : s.data.toList = []
  · rw [if_pos h0, hopperref01_Named.j0, if_pos rfl, h0]
    rfl
  · rw [if_neg h0]
    have e1 : s.data.toList.isEmpty = false := by simpa using h0
    by_cases h1 : s.size ≤ 32
    · rw [hopperref01_Named.j0, if_neg (by simp; omega), show (0 : Int) = ((0 : Nat) : Int) from rfl, named_l s (by omega) 39 0 (Nat.zero_le _) (by omega), e1, decide_eq_true h1]
      rfl
    · rw [hopperref01_Named.j0, if_pos (by simp; omega), e1, decide_eq_false h1]
      rfl
theorem named_walk (s : ByteArray) (w : World) : Calls Tryd.prog 52 #[.string s] w fun e w' => e = .returned (.bool (nameOk s)) ∧ Below w.heap.size w w' :=
  (hopperref01_Named.calls 40 s _ w (named_f s)).mono fun e w' h => ⟨h.1, h.2.below⟩
end Go.Proofs.YtdnmllodefbekaaDoor.Au
end

section
namespace Go.Proofs.YtdnmllodefbekaaDoor.Au
open Go.RowKit Go.Lib Go.Shelf Go.Proofs.YtdnmllodefbekaaDoor.Sha Go.Proofs.YtdnmllodefbekaaDoorW.PrintWords Go.Proofs.YtdnmllodefbekaaDoorW.PrintLast Go.Proofs.YtdnmllodefbekaaDoorW.PrintMore
open Go.Proofs.YtdnmllodefbekaaDoor.HShaSums (hopperref24_Sum.calls hopperref24_Mac.calls)
set_option linter.unusedVariables false
set_option linter.unusedSimpArgs false
set_option maxRecDepth 100000 in
theorem rchal_walk (a b : Int) (h0 : 0 ≤ a) (h1 : a < 18446744073709551616) (w : World) : Calls Tryd.prog 32 #[.int .u64 a, .int .i64 b] w fun e w' => e = .returned (.string (chalS a b)) ∧ Below w.heap.size w w' := by
  have HN := Aside0.mk (And.intro h0 h1)
  clear h0 h1
  obtain ⟨E, hE⟩ : ∃ E, eightS a = E := ⟨_, rfl⟩
  obtain ⟨F, hF⟩ : ∃ F, eightS (IntKind.u64.wrap b) = F := ⟨_, rfl⟩
  have s1 : E.size = 8 := by rw [← hE]; exact eightS_size _
  have s2 : F.size = 8 := by rw [← hF]; exact eightS_size _
  have HE := Aside0.mk hE
  have HF := Aside0.mk hF
  rw [show chalS a b = strOfNums (shaL (bytesOf (chalB ++ E ++ F))) from by unfold chalS; rw [hE, hF]]
  clear hE hF
  have hz1 : ¬ 9223372036854775807 < chalB.size + E.size := by rw [s1]; decide
  have hz2 : ¬ 9223372036854775807 < chalB.size + E.size + F.size := by rw [s1, s2]; decide
  obtain ⟨K, hK⟩ := refsum_f (chalB ++ E ++ F) (by simp only [ByteArray.size_append, s1, s2]; decide)
  have HK := Aside0.mk hK
  clear hK
  go_enter Tryd.func32, Tryd.ntmps32
  go_wp2_with fail
  refine (reight_walk _ HN.out.1 HN.out.2 _).mono ?_
  rw [HE.out]
  rintro e w1 ⟨rfl, hB1⟩
  have HB1 := Aside0.mk hB1
  clear hB1
  go_wp2_with fail
  refine (reight_walk _ (by rw [IntKind.wrap_u64]; omega) (by rw [IntKind.wrap_u64]; omega) _).mono ?_
  rw [HF.out]
  rintro e w2 ⟨rfl, hB2⟩
  have HB2 := Aside0.mk (below_step HB1.out hB2)
  clear hB2
  go_wp2_with fail
  refine (hopperref24_Sum.calls K _ _ w2 HK.out).mono ?_
  rintro e w3 ⟨rfl, hB3⟩
  have HB3 := Aside0.mk (below_step HB2.out hB3)
  clear hB3
  go_wp2
  go_ret
  exact ⟨rfl, HB3.out⟩
set_option maxRecDepth 100000 in
theorem rproof_walk (key name ch : ByteArray) (w : World) (hk : key.size ≤ 1000000000) (hn : name.size ≤ 400000000) (hc : ch.size ≤ 400000000) : Calls Tryd.prog 36 #[.string key, .string name, .string ch] w fun e w' => e = .returned (.string (proofS key name ch)) ∧ Below w.heap.size w w' := by
  have s0 : (⟨#[0]⟩ : ByteArray).size = 1 := rfl
  have hz1 : ¬ 9223372036854775807 < name.size + (⟨#[0]⟩ : ByteArray).size := by omega
  have hz2 : ¬ 9223372036854775807 < name.size + (⟨#[0]⟩ : ByteArray).size + ch.size := by omega
  obtain ⟨K, hK⟩ := refmac_f key (name ++ ⟨#[0]⟩ ++ ch) hk (by simp only [ByteArray.size_append]; omega)
  have HK := Aside0.mk hK
  clear hK
  unfold proofS
  go_enter Tryd.func36, Tryd.ntmps36
  go_wp2_with fail
  refine (hopperref24_Mac.calls K _ _ _ w HK.out).mono ?_
  rintro e w3 ⟨rfl, hB3⟩
  have HB3 := Aside0.mk hB3
  clear hB3
  go_wp2
  go_ret
  exact ⟨rfl, HB3.out⟩
end Go.Proofs.YtdnmllodefbekaaDoor.Au
end

section
namespace Go.Proofs.YtdnmllodefbekaaDoor.Au
open Go.RowKit Go.Lib Go.Maps Go.Sort Go.Shelf Go.WideAt Go.WideShapes
set_option linter.unusedVariables false
set_option linter.unusedSimpArgs false
theorem before_eq : ∀ a b : List UInt8, bytesBefore a b = Op.bytesLess a b
  | [], [] => rfl
  | [], _ :: _ => rfl
  | _ :: _, [] => rfl
  | a :: r, b :: s => by
    unfold bytesBefore Op.bytesLess
    rw [before_eq r s]
/-- The names stand in order. -/
def St (m : Ks) : Prop := (FM.keys m).Pairwise fun a b => bytesBefore a b = true
theorem St.nd {m : Ks} (h : St m) : Nd m := h.imp fun {a b} hab e => by rw [e, bytes_irrefl] at hab; cases hab
theorem St.del {m : Ks} (h : St m) (k : FM.Key) : St (FM.del m k) := by
  unfold St
  rw [keys_del]
  exact h.filter _
theorem st_ins (k : FM.Key) (v : ByteArray) : ∀ m : Ks, St m → (∀ p ∈ m, p.1 ≠ k) → St (FM.ins (k, v) m)
  | [], _, _ => by simp [FM.ins, St, FM.keys]
  | y :: r, h, hk => by
    have hy : ∀ b ∈ FM.keys r, bytesBefore y.1 b = true := (List.pairwise_cons.1 h).1
    have hr : St r := (List.pairwise_cons.1 h).2
    unfold FM.ins
    split
    · rename_i hb
      exact List.pairwise_cons.2 ⟨fun b hm => by
        rcases List.mem_cons.1 hm with rfl | hm
        · exact hb
        · exact bytes_trans _ _ _ hb (hy b hm), h⟩
    · rename_i hb
      have hky : bytesBefore y.1 k = true := by
        rcases bytes_total y.1 k (hk y (by simp)) with h1 | h1
        · exact h1
        · exact absurd h1 hb
      refine List.pairwise_cons.2 ⟨fun b hm => ?_, st_ins k v r hr fun p hp => hk p (by simp [hp])⟩
      have : b ∈ (k :: FM.keys r) := by
        have hp : (FM.keys (FM.ins (k, v) r)).Perm (k :: FM.keys r) := (ins_perm (k, v) r).map _
        exact hp.mem_iff.1 hm
      rcases List.mem_cons.1 this with rfl | hm
      · exact hky
      · exact hy b hm
theorem St.put {m : Ks} (h : St m) (k : FM.Key) (v : ByteArray) : St (FM.put m k v) :=
  st_ins k v _ (h.del k) fun p hp => (FM.mem_del.1 hp).2
/-- Where a name stands, or would. -/
def pl : Ks → FM.Key → Nat
  | [], _ => 0
  | y :: r, k => if bytesBefore y.1 k then pl r k + 1 else 0
theorem pl_le : ∀ (m : Ks) (k : FM.Key), pl m k ≤ m.length
  | [], _ => Nat.le_refl _
  | y :: r, k => by
    unfold pl
    have := pl_le r k
    split
    · rw [List.length_cons]; omega
    · exact Nat.zero_le _
theorem pl_less : ∀ (m : Ks) (k : FM.Key) (i : Nat) (h : i < m.length), i < pl m k → bytesBefore (m[i]).1 k = true
  | [], _, _, h, _ => by simp at h
  | y :: r, k, i, h, hi => by
    unfold pl at hi
    split at hi
    · rename_i hb
      cases i with
      | zero => exact hb
      | succ i => exact pl_less r k i (by simpa using h) (by omega)
    · omega
theorem pl_not : ∀ (m : Ks) (k : FM.Key) (h : pl m k < m.length), bytesBefore (m[pl m k]).1 k = false
  | [], _, h => by simp at h
  | y :: r, k, h => by
    by_cases hb : bytesBefore y.1 k = true
    · have e : pl (y :: r) k = pl r k + 1 := by rw [pl, if_pos hb]
      have h' : pl r k < r.length := by rw [e] at h; simpa using h
      have := pl_not r k h'
      simp only [e, List.getElem_cons_succ]
      exact this
    · have e : pl (y :: r) k = 0 := by rw [pl, if_neg hb]
      simp only [e, List.getElem_cons_zero]
      simpa using hb
/-- Of names in order: the one that is asked for stands at its place, or nowhere. -/
theorem get_pl : ∀ (m : Ks) (hs : St m) (k : FM.Key), FM.get m k = (m[pl m k]?).bind fun p => if p.1 = k then some p.2 else none
  | [], _, _ => rfl
  | y :: r, hs, k => by
    have hr : St r := (List.pairwise_cons.1 hs).2
    have hy : ∀ b ∈ FM.keys r, bytesBefore y.1 b = true := (List.pairwise_cons.1 hs).1
    unfold FM.get
    rw [List.find?_cons]
    by_cases hb : bytesBefore y.1 k = true
    · have hne : (y.1 == k) = false := by
        rw [beq_eq_false_iff_ne]
        intro e
        rw [e, bytes_irrefl] at hb
        cases hb
      rw [hne, pl, if_pos hb, List.getElem?_cons_succ]
      exact get_pl r hr k
    · rw [pl, if_neg hb, List.getElem?_cons_zero]
      by_cases e : y.1 = k
      · simp [e]
      · have : (y.1 == k) = false := by simpa using e
        rw [this]
        have hn : r.find? (fun p => p.1 == k) = none := by
          rw [List.find?_eq_none]
          intro p hp
          have h1 := hy p.1 (List.mem_map.2 ⟨p, hp, rfl⟩)
          simp only [beq_iff_eq]
          intro ep
          rw [ep] at h1
          exact hb h1
        rw [hn]
        simp [e]
theorem del_none {m : Ks} {k : FM.Key} (h : FM.get m k = none) : FM.del m k = m := by
  unfold FM.del
  rw [List.filter_eq_self]
  intro p hp
  have : (p.1 == k) = false := by
    cases he : (p.1 == k) with
    | false => rfl
    | true =>
      obtain ⟨u, hu, _⟩ := FM.get_of_mem (m := m) (k := k) (v := p.2) (by have : p.1 = k := by simpa using he
                                                                          rw [← this]; exact hp)
      rw [h] at hu
      cases hu
  rw [this]
  rfl
theorem ins_new : ∀ (m : Ks) (hs : St m) (k : FM.Key) (v : ByteArray), FM.get m k = none → FM.ins (k, v) m = m.take (pl m k) ++ (k, v) :: m.drop (pl m k)
  | [], _, _, _, _ => rfl
  | y :: r, hs, k, v, hg => by
    have hr : St r := (List.pairwise_cons.1 hs).2
    have hne : y.1 ≠ k := fun e => by
      have := FM.get_of_mem (m := y :: r) (k := k) (v := y.2) (by rw [← e]; simp)
      obtain ⟨u, hu, _⟩ := this
      rw [hg] at hu
      cases hu
    have hg' : FM.get r k = none := by
      unfold FM.get at hg ⊢
      rw [List.find?_cons] at hg
      have : (y.1 == k) = false := by simpa using hne
      rw [this] at hg
      exact hg
    unfold FM.ins
    by_cases hb : bytesBefore y.1 k = true
    · have hkb : ¬ bytesBefore k y.1 = true := fun h2 => by
        have := bytes_trans _ _ _ hb h2
        rw [bytes_irrefl] at this
        cases this
      rw [if_neg hkb, pl, if_pos hb, List.take_succ_cons, List.drop_succ_cons, ins_new r hr k v hg']
      rfl
    · have hkb : bytesBefore k y.1 = true := by
        rcases bytes_total y.1 k hne with h1 | h1
        · exact absurd h1 hb
        · exact h1
      rw [if_pos hkb, pl, if_neg hb]
      rfl
theorem head_case {y : FM.Key × ByteArray} {r : Ks} {k : FM.Key} {u : ByteArray} (hs : St (y :: r)) (hg : FM.get (y :: r) k = some u) (hb : ¬ bytesBefore y.1 k = true) : y.1 = k ∧ FM.get r k = none ∧ pl r k = 0 := by
  have hy : ∀ b ∈ FM.keys r, bytesBefore y.1 b = true := (List.pairwise_cons.1 hs).1
  have h1 := get_pl (y :: r) hs k
  rw [hg, pl, if_neg hb, List.getElem?_cons_zero, Option.bind_some] at h1
  have e : y.1 = k := by
    by_cases e : y.1 = k
    · exact e
    · rw [if_neg e] at h1; cases h1
  refine ⟨e, ?_, ?_⟩
  · unfold FM.get
    rw [List.find?_eq_none.2]
    · rfl
    · intro p hp
      have h2 := hy p.1 (List.mem_map.2 ⟨p, hp, rfl⟩)
      simp only [beq_iff_eq]
      intro ep
      rw [ep, e, bytes_irrefl] at h2
      cases h2
  · cases r with
    | nil => rfl
    | cons z r =>
      have h2 := hy z.1 (by simp [FM.keys])
      rw [pl, if_neg]
      intro h3
      rw [e] at h2
      have := bytes_trans _ _ _ h2 h3
      rw [bytes_irrefl] at this
      cases this
theorem get_tail {y : FM.Key × ByteArray} {r : Ks} {k : FM.Key} (hne : y.1 ≠ k) : FM.get (y :: r) k = FM.get r k := by
  unfold FM.get
  rw [List.find?_cons]
  have : (y.1 == k) = false := by simpa using hne
  rw [this]
theorem del_old : ∀ (m : Ks) (hs : St m) (k : FM.Key) (u : ByteArray), FM.get m k = some u → FM.del m k = m.take (pl m k) ++ m.drop (pl m k + 1) ∧ pl (FM.del m k) k = pl m k
  | [], _, _, _, hg => by cases hg
  | y :: r, hs, k, u, hg => by
    have hr : St r := (List.pairwise_cons.1 hs).2
    by_cases hb : bytesBefore y.1 k = true
    · have hne : y.1 ≠ k := fun e => by rw [e, bytes_irrefl] at hb; cases hb
      obtain ⟨h1, h2⟩ := del_old r hr k u (by rw [← get_tail hne]; exact hg)
      have e : FM.del (y :: r) k = y :: FM.del r k := by
        unfold FM.del
        rw [List.filter_cons]
        have : (y.1 == k) = false := by simpa using hne
        rw [this]
        rfl
      rw [e]
      constructor
      · rw [pl, if_pos hb, h1]; rfl
      · rw [pl, if_pos hb, h2, pl, if_pos hb]
    · obtain ⟨e, hn, h0⟩ := head_case hs hg hb
      have e1 : FM.del (y :: r) k = r := by
        have : FM.del (y :: r) k = FM.del r k := by
          unfold FM.del
          rw [List.filter_cons, e]
          simp
        rw [this, del_none hn]
      rw [e1, h0, pl, if_neg hb]
      exact ⟨rfl, rfl⟩
theorem put_new {m : Ks} (hs : St m) (k : FM.Key) (v : ByteArray) (h : FM.get m k = none) : FM.put m k v = m.take (pl m k) ++ (k, v) :: m.drop (pl m k) := by
  unfold FM.put
  rw [del_none h]
  exact ins_new m hs k v h
theorem put_old {m : Ks} (hs : St m) (k : FM.Key) (v u : ByteArray) (h : FM.get m k = some u) : FM.put m k v = m.take (pl m k) ++ (k, v) :: m.drop (pl m k + 1) := by
  unfold FM.put
  obtain ⟨h1, h2⟩ := del_old m hs k u h
  rw [ins_new _ (hs.del k) k v (FM.get_del_same m k), h2]
  have hl : (m.take (pl m k)).length = pl m k := by rw [List.length_take]; have := pl_le m k; omega
  rw [h1, List.take_append_of_le_length (by omega), List.take_of_length_le (by omega), List.drop_append_of_le_length (by omega), List.drop_of_length_le (by omega)]
  rfl
theorem names_keys {m : Ks} (hs : St m) : FM.names m = FM.keys m := by
  refine List.Perm.eq_of_pairwise (le := fun a b : List UInt8 => a ≤ b) (fun a b _ _ h1 h2 => List.le_antisymm h1 h2) (names_sorted m) (hs.imp fun {a b} h => ?_) (List.mergeSort_perm _ _)
  rw [before_eq, bytesLess_eq] at h
  exact List.le_of_lt (of_decide_eq_true h)
end Go.Proofs.YtdnmllodefbekaaDoor.Au
end

section
namespace Go.Proofs.YtdnmllodefbekaaDoor.Au
open Go.RowKit Go.Lib Go.Shelf Go.Proofs.YtdnmllodefbekaaDoor.Sha Go.Proofs.YtdnmllodefbekaaDoorW.PrintWords Go.Proofs.YtdnmllodefbekaaDoorW.PrintLast Go.Proofs.YtdnmllodefbekaaDoorW.PrintMore
set_option linter.unusedVariables false
set_option linter.unusedSimpArgs false
def nmB (m : Ks) : List ByteArray := m.map fun p => ⟨p.1.toArray⟩
def kyB (m : Ks) : List ByteArray := m.map (·.2)
theorem nmB_len (m : Ks) : (nmB m).length = m.length := by simp [nmB]
theorem kyB_len (m : Ks) : (kyB m).length = m.length := by simp [kyB]
theorem nmB_at (m : Ks) (i : Nat) (h : i < m.length) : ((nmB m).getD i ByteArray.empty).toList = (m[i]).1 := by
  rw [ByteArray.toList_eq]
  simp [nmB, List.getD_eq_getElem?_getD, h]
/-- The document's keys at block h: rows outside of S. -/
structure RkAt (S : Nat → Prop) (W : World) (h : Nat) (m : Ks) (A B : Option Addr) (ca cb : Nat) : Prop where
  blk : W.heap[h]? = some (.cells #[.slice A m.length ca, .slice B m.length cb] 54 (0, 0))
  nm : StrsAt S W A (nmB m)
  ky : StrsAt S W B (kyB m)
  la : m.length ≤ ca
  lb : m.length ≤ cb
  ma : ca ≤ maxLen
  mb : cb ≤ maxLen
  few : m.length ≤ 4096
def IsRk (S : Nat → Prop) (W : World) (h : Nat) (m : Ks) : Prop := ∃ A B ca cb, RkAt S W h m A B ca cb
theorem RowAt.frS {α : Type} {enc : α → Value} {d : α} {S T : Nat → Prop} {W W1 : World} {A : Option Addr} {xs : List α} (h : RowAt enc d S W A xs) (hf : Fr T W W1) (hs : ∀ k, T k → S k) : RowAt enc d S W1 A xs := h.fr (hf.mono hs)
theorem IsRk.fr {S T : Nat → Prop} {W W1 : World} {h : Nat} {m : Ks} (hr : IsRk S W h m) (hf : Fr T W W1) (hs : ∀ k, T k → S k) (hh : ¬ T h) : IsRk S W1 h m := by
  obtain ⟨A, B, ca, cb, h1⟩ := hr
  exact ⟨A, B, ca, cb, (hf.block h (blk_lt h1.blk) hh).trans h1.blk, h1.nm.frS hf hs, h1.ky.frS hf hs, h1.la, h1.lb, h1.ma, h1.mb, h1.few⟩
theorem IsRk.below {S : Nat → Prop} {W W1 : World} {h : Nat} {m : Ks} (hr : IsRk S W h m) (hb : Below W.heap.size W W1) : IsRk S W1 h m :=
  hr.fr (T := fun _ => False) (Fr.of_below hb) (fun _ h => h.elim) (fun h => h)
theorem there_pl {m : Ks} (hs : St m) (s : ByteArray) (h : pl m s.data.toList < m.length) : (((nmB m).getD (pl m s.data.toList) ByteArray.empty).toList == s.toList) = there m s := by
  rw [nmB_at m _ h]
  unfold there
  rw [get_pl m hs, List.getElem?_eq_getElem h, Option.bind_some, ByteArray.toList_eq]
  by_cases e : (m[pl m s.data.toList]).1 = s.data.toList
  · rw [if_pos e, e]; simp
  · rw [if_neg e]; simpa using e
theorem there_end {m : Ks} (hs : St m) (s : ByteArray) (h : ¬ pl m s.data.toList < m.length) : there m s = false := by
  unfold there
  rw [get_pl m hs, List.getElem?_eq_none (by omega)]
  rfl
set_option maxRecDepth 100000 in
set_option maxHeartbeats 4000000 in
theorem place_walk (S : Nat → Prop) (W : World) (h : Nat) (m : Ks) (hr : IsRk S W h m) (hst : St m) (s : ByteArray) : Calls Tryd.prog 53 #[.pointer (some ⟨h, 0, none⟩), .string s] W fun e W' => e = .returned (.tuple #[.int .i64 (pl m s.data.toList : Int), .bool (there m s)]) ∧ Below W.heap.size W W' := by
  obtain ⟨A, B, ca, cb, h1⟩ := hr
  have H1 := Aside0.mk h1
  have hmm : m.length ≤ 9223372036854775806 := by have := h1.few; omega
  have hle := pl_le m s.data.toList
  obtain ⟨p, hp⟩ : ∃ p, pl m s.data.toList = p := ⟨_, rfl⟩
  have HP := Aside0.mk hp
  have HST := Aside0.mk hst
  rw [hp] at hle ⊢
  have c0 := (blk_cell h1.blk 0).trans (show _ = some (Value.slice A m.length ca) from rfl)
  obtain ⟨T, hT⟩ : ∃ T, there m s = T := ⟨_, rfl⟩
  have HT := Aside0.mk hT
  rw [hT]
  clear h1 hst hp hT
  go_enter Tryd.func53, Tryd.ntmps53
  go_wp2_with fail
  go_loopg [6] (m.length + 1) (fun kq v w' => ∃ i : Nat, v = .int .i64 (i : Int) ∧ Aside0 (i + kq = m.length + 1 ∧ i ≤ p) ∧ w' = W)
  case atStart => exact ⟨0, rfl, ⟨by omega, Nat.zero_le _⟩, rfl⟩
  case round =>
    obtain ⟨i, rfl, HI, hw⟩ := hrel
    subst hw
    have hi2 := HI.out.2
    by_cases q : i < p
    · obtain ⟨kq1, rfl⟩ : ∃ kq1, gk = kq1 + 1 := ⟨gk - 1, by have := HI.out; omega⟩
      have hil : i < m.length := by omega
      have hil' : (i : Int) < (m.length : Int) := by omega
      obtain ⟨ad, rfl, hx⟩ := H1.out.nm.at_ i (by rw [nmB_len]; exact hil)
      have hbl : Op.bytesLess ((nmB m).getD i ByteArray.empty).toList s.toList = true := by
        rw [nmB_at m i hil, ByteArray.toList_eq, ← before_eq]
        exact pl_less m _ i hil (by rw [HP.out]; exact q)
      generalize (nmB m).getD i ByteArray.empty = x at hx hbl
      have HQ := Aside0.mk q
      clear hil q hi2
      go_wp2_with fail
      go_roundg kq1
      case measure => omega
      case rel => exact ⟨i + 1, by simp, ⟨by have := HI.out; omega, by have := HQ.out; omega⟩, rfl⟩
    · obtain rfl : i = p := by omega
      by_cases hil : i < m.length
      · have hil' : (i : Int) < (m.length : Int) := by omega
        obtain ⟨ad, rfl, hx⟩ := H1.out.nm.at_ i (by rw [nmB_len]; exact hil)
        have hbl : Op.bytesLess ((nmB m).getD i ByteArray.empty).toList s.toList = false := by
          rw [nmB_at m i hil, ByteArray.toList_eq, ← before_eq]
          have := pl_not m s.data.toList (by rw [HP.out]; exact hil)
          simp only [HP.out] at this
          exact this
        have heq : (((nmB m).getD i ByteArray.empty).toList == s.toList) = T := by
          have := there_pl HST.out s (by rw [HP.out]; exact hil)
          rw [HP.out, HT.out] at this
          exact this
        generalize (nmB m).getD i ByteArray.empty = x at hx hbl heq
        clear hil q hi2
        go_wp2_with fail
        go_quiet (fail)
        go_wp2_with fail
        exact bodyPost_ret (v := .tuple #[.int .i64 (i : Int), .bool _]) (by simp [results, Tryd.results53, go_sem]) rfl ⟨rfl, pw_below_drewN (Below.refl _ _) _⟩
      · have hil' : ¬ (i : Int) < (m.length : Int) := by omega
        obtain rfl : T = false := by rw [← HT.out]; exact there_end HST.out s (by rw [HP.out]; exact hil)
        have hd : decide ((i : Int) < (m.length : Int)) = false := decide_eq_false hil'
        clear hil q hi2
        have e_ : i = m.length := by have := HI.out; omega
        subst e_
        clear hd hil'
        go_wp2_with fail
        go_quiet (fail)
        go_wp2_with fail
        exact bodyPost_ret (v := .tuple #[.int .i64 (m.length : Int), .bool _]) (by simp [results, Tryd.results53, go_sem]) rfl ⟨rfl, pw_below_drewN (Below.refl _ _) _⟩
end Go.Proofs.YtdnmllodefbekaaDoor.Au
end

section
namespace Go.Proofs.YtdnmllodefbekaaDoor.Au
open Go.RowKit Go.Lib Go.Shelf Go.Proofs.YtdnmllodefbekaaDoor.Sha Go.Proofs.YtdnmllodefbekaaDoorW.PrintWords Go.Proofs.YtdnmllodefbekaaDoorW.PrintLast Go.Proofs.YtdnmllodefbekaaDoorW.PrintMore
set_option linter.unusedVariables false
set_option linter.unusedSimpArgs false
theorem info9 : (Tryd.prog.info? 9).map (fun i => (i.zero, i.size, i.bytes)) = some (some (.string ⟨#[]⟩), 1, 16) := by kernel_rfl
theorem Fr.set {S : Nat → Prop} {a b : World} (h : Fr S a b) {p : Addr} (hp : S p.block ∨ a.heap.size ≤ p.block) (u : Value) : Fr S a (b.setCell p u) :=
  ⟨h.os, h.tape, h.output, by have := h.size; simpa [World.setCell] using this, fun i hi hn => (Below.heap_setCell b p u i (fun e => hp.elim (fun hp => hn (e ▸ hp)) (fun hp => by omega))).trans (h.block i hi hn)⟩
abbrev OwnR (w : World) (base : Nat) (v : Value) (xs : List ByteArray) : Prop := Kd.R Kd.string 9 w base (fun _ => True) v xs
/-- Two rows of strings of the call's own, apart. -/
structure Pair (W0 : World) (base : Nat) (S : Nat → Prop) (w : World) (N : Value) (xs : List ByteArray) (K : Value) (ys : List ByteArray) : Prop where
  n : OwnR w base N xs
  k : OwnR w base K ys
  ne : ∀ b, N.ownBlock = some b → K.ownBlock ≠ some b
  fr : Fr S W0 w
theorem Pair.size {W0 w : World} {base : Nat} {S : Nat → Prop} {N K : Value} {xs ys : List ByteArray} (h : Pair W0 base S w N xs K ys) : W0.heap.size ≤ w.heap.size := h.fr.size
theorem Pair.okN {W0 w : World} {base : Nat} {S : Nat → Prop} {N K : Value} {xs ys : List ByteArray} (h : Pair W0 base S w N xs K ys) : Kd.R Kd.string 9 w base (fun k => some k ≠ K.ownBlock) N xs :=
  Kd.R_of_own (Kd.own_of_R h.n) fun k hk e => h.ne k hk e.symm
theorem Pair.okK {W0 w : World} {base : Nat} {S : Nat → Prop} {N K : Value} {xs ys : List ByteArray} (h : Pair W0 base S w N xs K ys) : Kd.R Kd.string 9 w base (fun k => some k ≠ N.ownBlock) K ys :=
  Kd.R_of_own (Kd.own_of_R h.k) fun k hk e => h.ne k e.symm hk
theorem Pair.freshN {W0 w : World} {base : Nat} {S : Nat → Prop} {N K : Value} {xs ys : List ByteArray} (h : Pair W0 base S w N xs K ys) : ∀ k, w.heap.size ≤ k → some k ≠ K.ownBlock := fun k hk e => by
  have := Kd.R_lt h.k k e.symm
  omega
theorem Pair.freshK {W0 w : World} {base : Nat} {S : Nat → Prop} {N K : Value} {xs ys : List ByteArray} (h : Pair W0 base S w N xs K ys) : ∀ k, w.heap.size ≤ k → some k ≠ N.ownBlock := fun k hk e => by
  have := Kd.R_lt h.n k e.symm
  omega
theorem fr_grown {S : Nat → Prop} {W0 w w1 : World} {v : Value} {base : Nat} {xs : List ByteArray} (h : Fr S W0 w) (hg : w.grownBy w1 v.ownBlock) (hv : OwnR w base v xs) (hb : W0.heap.size ≤ base) : Fr S W0 w1 :=
  ⟨hg.os.trans h.os, hg.tape.trans h.tape, hg.output.trans h.output, Nat.le_trans h.size hg.size, fun k hk hn => (hg.block k (Nat.lt_of_lt_of_le hk h.size) fun e => by
    have := Kd.R_base hv k e.symm
    omega).trans (h.block k hk hn)⟩
theorem Pair.left {W0 w w1 : World} {base : Nat} {S : Nat → Prop} {N K N1 : Value} {xs ys xs1 : List ByteArray} (h : Pair W0 base S w N xs K ys) (hb : W0.heap.size ≤ base) (hr : Kd.R Kd.string 9 w1 base (fun k => some k ≠ K.ownBlock) N1 xs1) (hg : w.grownBy w1 N.ownBlock) : Pair W0 base S w1 N1 xs1 K ys :=
  ⟨Kd.R_of_own (Kd.own_of_R hr) fun _ _ => trivial, Kd.R_of_own (Go.Proofs.YtdnmllodefbekaaDoorW.PrintWords.own_move (Kd.own_of_R h.k) fun k hk => hg.block k (Kd.R_lt h.k k hk) fun e => h.ne k e.symm hk) fun _ _ => trivial, fun b hb1 e => hr.1 b hb1 e.symm, fr_grown h.fr hg h.n hb⟩
theorem Pair.right {W0 w w1 : World} {base : Nat} {S : Nat → Prop} {N K K1 : Value} {xs ys ys1 : List ByteArray} (h : Pair W0 base S w N xs K ys) (hb : W0.heap.size ≤ base) (hr : Kd.R Kd.string 9 w1 base (fun k => some k ≠ N.ownBlock) K1 ys1) (hg : w.grownBy w1 K.ownBlock) : Pair W0 base S w1 N xs K1 ys1 :=
  ⟨Kd.R_of_own (Go.Proofs.YtdnmllodefbekaaDoorW.PrintWords.own_move (Kd.own_of_R h.n) fun k hk => hg.block k (Kd.R_lt h.n k hk) fun e => h.ne k hk e.symm) fun _ _ => trivial, Kd.R_of_own (Kd.own_of_R hr) fun _ _ => trivial, fun b hb1 e => hr.1 b e hb1.symm, fr_grown h.fr hg h.k hb⟩
theorem Pair.start {S : Nat → Prop} {W0 w : World} (base : Nat) (h : Fr S W0 w) : Pair W0 base S w (.slice none 0 0) [] (.slice none 0 0) [] :=
  ⟨Kd.R_nil _ _ _ _ _, Kd.R_nil _ _ _ _ _, fun b hb => absurd hb (by simp [Value.ownBlock]), h⟩
theorem Pair.set {W0 w : World} {base : Nat} {S : Nat → Prop} {N K : Value} {xs ys : List ByteArray} (h : Pair W0 base S w N xs K ys) {p : Addr} (hp : S p.block) (hb : p.block < base) (u : Value) : Pair W0 base S (w.setCell p u) N xs K ys :=
  ⟨Kd.R_of_own (Go.Proofs.YtdnmllodefbekaaDoorW.PrintWords.own_move (Kd.own_of_R h.n) fun k hk => Below.heap_setCell w p u k (by have := Kd.R_base h.n k hk; omega)) fun _ _ => trivial, Kd.R_of_own (Go.Proofs.YtdnmllodefbekaaDoorW.PrintWords.own_move (Kd.own_of_R h.k) fun k hk => Below.heap_setCell w p u k (by have := Kd.R_base h.k k hk; omega)) fun _ _ => trivial, h.ne, h.fr.set (.inl hp) u⟩
theorem row_c {S : Nat → Prop} {W : World} {A : Option Addr} {xs : List ByteArray} (h : StrsAt S W A xs) : Kd.C Kd.string W A xs.length xs :=
  Kd.C_of_reads (enc := Value.string) (d := ByteArray.empty) (h1 := fun _ => rfl) ⟨rfl, by have := h.1; unfold maxLen at this; omega, fun hp => by
    obtain ⟨ad, e, _, _, hc⟩ := h.2 hp
    exact ⟨ad, e, fun i hi => hc i hi⟩⟩
theorem own_strs {S : Nat → Prop} {W : World} {base : Nat} {v : Value} {xs : List ByteArray} (h : OwnR W base v xs) (hS : ∀ k, base ≤ k → ¬ S k) : ∃ A c, v = .slice A xs.length c ∧ StrsAt S W A xs ∧ xs.length ≤ c ∧ c ≤ maxLen :=
  own_row (Kd.own_of_R h) hS
end Go.Proofs.YtdnmllodefbekaaDoor.Au
end

section
namespace Go.Proofs.YtdnmllodefbekaaDoor.Au
open Go.RowKit Go.Lib Go.Shelf Go.Proofs.YtdnmllodefbekaaDoor.Sha Go.Proofs.YtdnmllodefbekaaDoorW.PrintWords Go.Proofs.YtdnmllodefbekaaDoorW.PrintLast Go.Proofs.YtdnmllodefbekaaDoorW.PrintMore
set_option linter.unusedVariables false
set_option linter.unusedSimpArgs false
theorem RkAt.frE {S : Nat → Prop} {W W1 : World} {h : Nat} {m : Ks} {A B : Option Addr} {ca cb : Nat} (h1 : RkAt S W h m A B ca cb) (hf : Fr (fun _ => False) W W1) : RkAt S W1 h m A B ca cb :=
  ⟨(hf.block h (blk_lt h1.blk) (fun h => h)).trans h1.blk, h1.nm.frS hf (fun _ h => h.elim), h1.ky.frS hf (fun _ h => h.elim), h1.la, h1.lb, h1.ma, h1.mb, h1.few⟩
theorem take_c {S : Nat → Prop} {W : World} {A : Option Addr} {xs : List ByteArray} {p : Nat} (h : StrsAt S W A xs) (hp : p ≤ xs.length) : Kd.C Kd.string W A p (xs.take p) := by
  have := Kd.C_take (row_c h) hp
  rw [List.length_take, Nat.min_eq_left hp] at this
  exact this
theorem drop_c {S : Nat → Prop} {W : World} {A : Option Addr} {xs : List ByteArray} {p n : Nat} (h : StrsAt S W A xs) (hp : p ≤ xs.length) (hn : xs.length = n) (h0 : 0 < p) : Kd.C Kd.string W (A.map fun x => ⟨x.block, x.off + p, none⟩) (n - p) (xs.drop p) := by
  have hl : (xs.drop p).length = n - p := by rw [List.length_drop, hn]
  have : Kd.C Kd.string W (A.map fun x => ⟨x.block, x.off + p, none⟩) (xs.drop p).length (xs.drop p) := by
    refine Kd.C_of_reads (enc := Value.string) (d := ByteArray.empty) (h1 := fun _ => rfl) ⟨rfl, by have := h.1; unfold maxLen at this; rw [List.length_drop]; omega, fun hq => ?_⟩
    rw [List.length_drop] at hq
    obtain ⟨ad, rfl, _, _, hc⟩ := h.2 (by omega)
    refine ⟨_, rfl, fun i hi => ?_⟩
    rw [List.length_drop] at hi
    have e : (⟨ad.block, ad.off + p, none⟩ : Addr) = ad.add p := by
      obtain ⟨a, b, c⟩ := ad
      have : p ≠ 0 := by omega
      simp [Addr.add, this]
    show W.cell? ((⟨ad.block, ad.off + p, none⟩ : Addr).add i) = _
    rw [e, add_add, hc (p + i) (by omega)]
    simp [List.getD_eq_getElem?_getD]
  rw [hl] at this
  exact this
theorem nil_c {W : World} {A : Option Addr} {xs : List ByteArray} {p n : Nat} (k : Nat) (h : xs.length ≤ p) (hn : n = 0) : Kd.C Kd.string W A n (xs.drop p) := by
  subst hn
  have e : xs.drop p = [] := List.drop_of_length_le h
  rw [e]
  exact ⟨rfl, by simp, fun h => absurd h (Nat.lt_irrefl 0)⟩
theorem Pair.mono {W0 w : World} {base : Nat} {S T : Nat → Prop} {N K : Value} {xs ys : List ByteArray} (h : Pair W0 base S w N xs K ys) (hs : ∀ k, S k → T k) : Pair W0 base T w N xs K ys := ⟨h.n, h.k, h.ne, h.fr.mono hs⟩
theorem slice_of {W : World} {base : Nat} {ok : Nat → Prop} {v : Value} {xs : List ByteArray} (h : Kd.R Kd.string 9 W base ok v xs) : ∃ A n c, v = .slice A n c := by
  obtain ⟨A, c, e⟩ := Kd.R_slice h
  exact ⟨A, _, c, e⟩
theorem nm_cat {m : Ks} {s k : ByteArray} (p p1 : Nat) : (nmB m).take p ++ [s] ++ (nmB m).drop p1 = nmB (m.take p ++ (s.data.toList, k) :: m.drop p1) := by
  simp [nmB]
theorem ky_cat {m : Ks} {s k : ByteArray} (p p1 : Nat) : (kyB m).take p ++ [k] ++ (kyB m).drop p1 = kyB (m.take p ++ (s.data.toList, k) :: m.drop p1) := by
  simp [kyB]
theorem rk_end {S : Nat → Prop} {W w : World} {base gh : Nat} {m' : Ks} {T : Nat → Prop} {A7 A8 : Option Addr} {n7 c7 n8 c8 : Nat} {xs ys : List ByteArray} (hp : Pair W base T w (.slice A7 n7 c7) xs (.slice A8 n8 c8) ys)
    (hb : w.heap[gh]? = some (.cells #[.slice A7 n7 c7, .slice A8 n8 c8] 54 (0, 0))) (hS : ∀ k, base ≤ k → ¬ S k) (ex : xs = nmB m') (ey : ys = kyB m') (hf : m'.length ≤ 4096) : IsRk S w gh m' := by
  subst ex ey
  obtain ⟨A', c', e1, hA, hc1, hc2⟩ := own_strs (S := S) hp.n hS
  obtain ⟨B', d', e2, hB, hd1, hd2⟩ := own_strs (S := S) hp.k hS
  injection e1 with a1 a2 a3
  injection e2 with b1 b2 b3
  subst a1 a2 a3 b1 b2 b3
  rw [nmB_len] at hc1 hb
  rw [kyB_len] at hd1 hb
  exact ⟨A7, A8, c7, c8, hb, hA, hB, hc1, hd1, hc2, hd2, hf⟩
set_option maxRecDepth 100000 in
set_option maxHeartbeats 4000000 in
theorem rput_old (S : Nat → Prop) (W : World) (gh : Nat) (m : Ks) (hr : IsRk S W gh m) (hst : St m) (hS : S gh) (hlt : ∀ k, S k → k < W.heap.size) (s k : ByteArray) (hs : s.size ≤ maxLen) (hN : nameOk s = true) (hk1 : 1 ≤ k.size) (hk2 : k.size ≤ 64) (hT : there m s = true) :
    Calls Tryd.prog 34 #[.pointer (some ⟨gh, 0, none⟩), .string s, .string k] W fun e W' => e = .returned (.int .i64 0) ∧ IsRk S W' gh (FM.put m s.data.toList k) ∧ Fr (Only gh) W W' := by
  have HST := Aside0.mk hst
  have HSS := Aside0.mk (And.intro hS hlt)
  have HN := Aside0.mk hN
  have HT := Aside0.mk hT
  have q1 : ¬ (k.size : Int) < 1 := by omega
  have q2 : ¬ (64 : Int) < (k.size : Int) := by omega
  have hle := pl_le m s.data.toList
  have hlt2 : pl m s.data.toList < m.length := by
    refine Decidable.byContradiction fun hn => ?_
    have := there_end hst s hn
    rw [hT] at this
    cases this
  obtain ⟨p, hp⟩ : ∃ p, pl m s.data.toList = p := ⟨_, rfl⟩
  have HP := Aside0.mk hp
  rw [hp] at hle hlt2
  obtain ⟨u, hu⟩ : ∃ u, FM.get m s.data.toList = some u := by
    unfold there at hT
    exact Option.isSome_iff_exists.1 hT
  have HU := Aside0.mk hu
  obtain ⟨A, B, ca, cb, h0⟩ := hr
  have hfew := h0.few
  have la : (m.length : Int) ≤ (ca : Int) := by have := h0.la; omega
  have lb : (m.length : Int) ≤ (cb : Int) := by have := h0.lb; omega
  have hpc : (p : Int) ≤ (ca : Int) := by omega
  have hpd : (p : Int) ≤ (cb : Int) := by omega
  have H0 := Aside0.mk h0
  clear h0 hst hS hlt hN hT hp hu
  by_cases hca : ca = p + 1 <;> by_cases hcb : cb = p + 1
  all_goals (try subst hca)
  all_goals (try subst hcb)
  all_goals (
    go_enter Tryd.func34, Tryd.ntmps34
    go_wp2_with fail
    refine (named_walk s _).mono ?_
    rw [HN.out]
    rintro e w1 ⟨rfl, hB1⟩
    have HB1 := Aside0.mk hB1
    have HR1 := Aside0.mk (show IsRk S w1 gh m from IsRk.below ⟨A, B, _, _, H0.out⟩ hB1)
    clear hB1
    go_wp2_with fail
    refine (place_walk S _ gh m HR1.out HST.out s).mono ?_
    rw [HP.out, HT.out]
    rintro e w2 ⟨rfl, hB2⟩
    have HP0 := Aside0.mk (Pair.start (S := fun _ => False) W.heap.size (Fr.of_below (S := fun _ => False) (below_step HB1.out hB2)))
    have c0 := (blk_cell (H0.out.frE HP0.out.fr).blk 0).trans (show _ = some (Value.slice A m.length _) from rfl)
    clear hB2
    go_wp2_with (first | ((with_reducible refine gate_builtin (b := .append) (xs := #[.tmp 40, .tmp 46]) rfl ?_); at_builtin; refine Kd.R_append_row Value.string ByteArray.empty (h1 := fun _ => rfl) (w0 := w2) W.heap.size rfl (.tmp 40) (.tmp 46) 26 9 (.string ⟨#[]⟩) 16 rfl Tryd.underlying26 info9 rfl (by decide) _ [] ((nmB m).take p) A p _ _ rfl rfl HP0.out.freshN HP0.out.okN (take_c (H0.out.frE HP0.out.fr).nm (by rw [nmB_len]; exact hle)) (Below.refl _ _) HP0.out.size (by simp only [List.length_nil]; omega) ?_; intro vw3 w3 hr_ hb_ hg_ _; have HP1 := Aside0.mk (HP0.out.left (Nat.le_refl _) hr_ hg_); have c1 := (blk_cell (H0.out.frE HP1.out.fr).blk 1).trans (show _ = some (Value.slice B m.length _) from rfl); have c0 := (blk_cell (H0.out.frE HP1.out.fr).blk 0).trans (show _ = some (Value.slice A m.length _) from rfl); clear hr_ hb_ hg_) | ((with_reducible refine gate_builtin (b := .append) (xs := #[.tmp 48, .tmp 54]) rfl ?_); at_builtin; refine Kd.R_append_row Value.string ByteArray.empty (h1 := fun _ => rfl) (w0 := w3) W.heap.size rfl (.tmp 48) (.tmp 54) 26 9 (.string ⟨#[]⟩) 16 rfl Tryd.underlying26 info9 rfl (by decide) _ [] ((kyB m).take p) B p _ _ rfl rfl HP1.out.freshK HP1.out.okK (take_c (H0.out.frE HP1.out.fr).ky (by rw [kyB_len]; exact hle)) (Below.refl _ _) HP1.out.size (by simp only [List.length_nil]; omega) ?_; intro vw4 w4 hr_ hb_ hg_ _; have HP2 := Aside0.mk (HP1.out.right (Nat.le_refl _) hr_ hg_); have c1 := (blk_cell (H0.out.frE HP2.out.fr).blk 1).trans (show _ = some (Value.slice B m.length _) from rfl); have c0 := (blk_cell (H0.out.frE HP2.out.fr).blk 0).trans (show _ = some (Value.slice A m.length _) from rfl); clear hr_ hb_ hg_) | ((with_reducible refine gate_builtin (b := .append) (xs := #[.tmp 56, .tmp 58]) rfl ?_); at_builtin; refine Kd.R_append Kd.string (w0 := w4) W.heap.size rfl (.tmp 56) (.tmp 58) 26 9 (.string ⟨#[]⟩) 16 rfl Tryd.underlying26 info9 rfl (by decide) (by decide) vw3 _ s [.string s] _ (fun _ => False) rfl rfl rfl (fun _ hk => hk.elim) HP2.out.freshN HP2.out.okN (Below.refl _ _) HP2.out.size (by simp only [List.nil_append, List.length_take, nmB_len, kyB_len]; omega) ?_; intro vw5 w5 hr_ hb_ hg_ _; have HP3 := Aside0.mk (HP2.out.left (Nat.le_refl _) hr_ hg_); have c1 := (blk_cell (H0.out.frE HP3.out.fr).blk 1).trans (show _ = some (Value.slice B m.length _) from rfl); have c0 := (blk_cell (H0.out.frE HP3.out.fr).blk 0).trans (show _ = some (Value.slice A m.length _) from rfl); clear hr_ hb_ hg_) | ((with_reducible refine gate_builtin (b := .append) (xs := #[.tmp 60, .tmp 62]) rfl ?_); at_builtin; refine Kd.R_append Kd.string (w0 := w5) W.heap.size rfl (.tmp 60) (.tmp 62) 26 9 (.string ⟨#[]⟩) 16 rfl Tryd.underlying26 info9 rfl (by decide) (by decide) vw4 _ k [.string k] _ (fun _ => False) rfl rfl rfl (fun _ hk => hk.elim) HP3.out.freshK HP3.out.okK (Below.refl _ _) HP3.out.size (by simp only [List.nil_append, List.length_take, nmB_len, kyB_len]; omega) ?_; intro vw6 w6 hr_ hb_ hg_ _; have HP4 := Aside0.mk (HP3.out.right (Nat.le_refl _) hr_ hg_); have c1 := (blk_cell (H0.out.frE HP4.out.fr).blk 1).trans (show _ = some (Value.slice B m.length _) from rfl); have c0 := (blk_cell (H0.out.frE HP4.out.fr).blk 0).trans (show _ = some (Value.slice A m.length _) from rfl); clear hr_ hb_ hg_) | ((with_reducible refine gate_builtin (b := .append) (xs := #[.tmp 68, .tmp 74]) rfl ?_); at_builtin; refine Kd.R_append_row Value.string ByteArray.empty (h1 := fun _ => rfl) (w0 := w6) W.heap.size rfl (.tmp 68) (.tmp 74) 26 9 (.string ⟨#[]⟩) 16 rfl Tryd.underlying26 info9 rfl (by decide) vw5 _ ((nmB m).drop (p + 1)) _ _ _ _ rfl rfl HP4.out.freshN HP4.out.okN (by first | exact drop_c (H0.out.frE HP4.out.fr).nm (by rw [nmB_len]; omega) (nmB_len m) (by omega) | exact nil_c 0 (by rw [nmB_len]; have := H0.out.la; omega) (by have := H0.out.la; omega)) (Below.refl _ _) HP4.out.size (by simp only [List.nil_append, List.length_append, List.length_take, nmB_len, List.length_cons, List.length_nil]; omega) ?_; intro vw7 w7 hr_ hb_ hg_ _; obtain ⟨A7, n7, c7, rfl⟩ := slice_of hr_; have HP5 := Aside0.mk (HP4.out.left (Nat.le_refl _) hr_ hg_); have hb7 := (H0.out.frE HP5.out.fr).blk; have c1 := (blk_cell hb7 1).trans (show _ = some (Value.slice B m.length _) from rfl); have c0 := (blk_cell hb7 0).trans (show _ = some (Value.slice A m.length _) from rfl); have f0 := blk_frozen hb7 0; have HP6 := Aside0.mk (Pair.set (S := Only gh) (HP5.out.mono (fun _ h => h.elim)) (p := ⟨gh, 0, none⟩) rfl (HSS.out.2 gh HSS.out.1) (.slice A7 n7 c7)); have HB7 := Aside0.mk (blk_put hb7 0 (.slice A7 n7 c7) (show _ = #[.slice A7 n7 c7, Value.slice B m.length _] from rfl)); clear hr_ hb_ hg_ hb7) | ((with_reducible refine gate_builtin (b := .append) (xs := #[.tmp 79, .tmp 85]) rfl ?_); at_builtin; refine Kd.R_append_row Value.string ByteArray.empty (h1 := fun _ => rfl) (w0 := _) W.heap.size rfl (.tmp 79) (.tmp 85) 26 9 (.string ⟨#[]⟩) 16 rfl Tryd.underlying26 info9 rfl (by decide) vw6 _ ((kyB m).drop (p + 1)) _ _ _ _ rfl rfl HP6.out.freshK HP6.out.okK (by first | exact drop_c (H0.out.ky.frS HP6.out.fr fun k hk => hk ▸ HSS.out.1) (by rw [kyB_len]; omega) (kyB_len m) (by omega) | exact nil_c 0 (by rw [kyB_len]; have := H0.out.lb; omega) (by have := H0.out.lb; omega)) (Below.refl _ _) HP6.out.size (by simp only [List.nil_append, List.length_append, List.length_take, kyB_len, List.length_cons, List.length_nil]; omega) ?_; intro vw8 w8 hr_ hb_ hg_ _; obtain ⟨A8, n8, c8, rfl⟩ := slice_of hr_; have HP7 := Aside0.mk (HP6.out.right (Nat.le_refl _) hr_ hg_); have hb8 := (hg_.block gh (blk_lt HB7.out) fun e => absurd (Kd.R_base HP6.out.k gh e.symm) (by have := HSS.out.2 gh HSS.out.1; omega)).trans HB7.out; have c1 := (blk_cell hb8 1).trans (show _ = some (Value.slice B m.length _) from rfl); have f1 := blk_frozen hb8 1; have HP8 := Aside0.mk (HP7.out.set (p := ⟨gh, 1, none⟩) rfl (HSS.out.2 gh HSS.out.1) (.slice A8 n8 c8)); have HB8 := Aside0.mk (blk_put hb8 1 (.slice A8 n8 c8) (show _ = #[.slice A7 n7 c7, .slice A8 n8 c8] from rfl)); clear hr_ hb_ hg_ hb8))
    all_goals (
      go_ret
      refine ⟨rfl, ?_, HP8.out.fr⟩
      have e1 := put_old HST.out s.data.toList k _ HU.out
      rw [HP.out] at e1
      exact rk_end HP8.out HB8.out (fun k hk hs => absurd (HSS.out.2 k hs) (by omega)) (by rw [List.nil_append, nm_cat (k := k), ← e1]) (by rw [List.nil_append, ky_cat (s := s), ← e1]) (put_len hfew s k (.inl HT.out))))
end Go.Proofs.YtdnmllodefbekaaDoor.Au
end

section
namespace Go.Proofs.YtdnmllodefbekaaDoor.Au
open Go.RowKit Go.Lib Go.Shelf Go.Proofs.YtdnmllodefbekaaDoor.Sha Go.Proofs.YtdnmllodefbekaaDoorW.PrintWords Go.Proofs.YtdnmllodefbekaaDoorW.PrintLast Go.Proofs.YtdnmllodefbekaaDoorW.PrintMore
set_option linter.unusedVariables false
set_option linter.unusedSimpArgs false
theorem drop_c2 {S : Nat → Prop} {W : World} {A : Option Addr} {xs : List ByteArray} {p n : Nat} (h : StrsAt S W A xs) (hp : p ≤ xs.length) (hn : xs.length = n) : Kd.C Kd.string W (A.map fun x => x.add p) (n - p) (xs.drop p) := by
  have hl : (xs.drop p).length = n - p := by rw [List.length_drop, hn]
  have : Kd.C Kd.string W (A.map fun x => x.add p) (xs.drop p).length (xs.drop p) := by
    refine Kd.C_of_reads (enc := Value.string) (d := ByteArray.empty) (h1 := fun _ => rfl) ⟨rfl, by have := h.1; unfold maxLen at this; rw [List.length_drop]; omega, fun hq => ?_⟩
    rw [List.length_drop] at hq
    obtain ⟨ad, rfl, _, _, hc⟩ := h.2 (by omega)
    refine ⟨_, rfl, fun i hi => ?_⟩
    rw [List.length_drop] at hi
    show W.cell? ((ad.add p).add i) = _
    rw [add_add, hc (p + i) (by omega)]
    simp [List.getD_eq_getElem?_getD]
  rw [hl] at this
  exact this
theorem all_c {S : Nat → Prop} {W : World} {A : Option Addr} {xs : List ByteArray} {p n : Nat} (h : StrsAt S W A xs) (h0 : p = 0) (hn : xs.length = n) : Kd.C Kd.string W A n (xs.drop p) := by
  subst h0 hn
  exact row_c h
set_option maxRecDepth 100000 in
set_option maxHeartbeats 4000000 in
theorem rput_new (S : Nat → Prop) (W : World) (gh : Nat) (m : Ks) (hr : IsRk S W gh m) (hst : St m) (hS : S gh) (hlt : ∀ k, S k → k < W.heap.size) (s k : ByteArray) (hs : s.size ≤ maxLen) (hN : nameOk s = true) (hk1 : 1 ≤ k.size) (hk2 : k.size ≤ 64) (hT : there m s = false) (hf4 : m.length < 4096) :
    Calls Tryd.prog 34 #[.pointer (some ⟨gh, 0, none⟩), .string s, .string k] W fun e W' => e = .returned (.int .i64 0) ∧ IsRk S W' gh (FM.put m s.data.toList k) ∧ Fr (Only gh) W W' := by
  have HST := Aside0.mk hst
  have HSS := Aside0.mk (And.intro hS hlt)
  have HN := Aside0.mk hN
  have HT := Aside0.mk hT
  have q1 : ¬ (k.size : Int) < 1 := by omega
  have q2 : ¬ (64 : Int) < (k.size : Int) := by omega
  have hle := pl_le m s.data.toList
  have hq4 : (m.length : Int) < 4096 := by omega
  have HF4 := Aside0.mk hf4
  obtain ⟨p, hp⟩ : ∃ p, pl m s.data.toList = p := ⟨_, rfl⟩
  have HP := Aside0.mk hp
  rw [hp] at hle
  have hu : FM.get m s.data.toList = none := by
    unfold there at hT
    cases hg : FM.get m s.data.toList with
    | none => rfl
    | some u => rw [hg] at hT; cases hT
  have HU := Aside0.mk hu
  obtain ⟨A, B, ca, cb, h0⟩ := hr
  have hfew := h0.few
  have la : (m.length : Int) ≤ (ca : Int) := by have := h0.la; omega
  have lb : (m.length : Int) ≤ (cb : Int) := by have := h0.lb; omega
  have hpc : (p : Int) ≤ (ca : Int) := by omega
  have hpd : (p : Int) ≤ (cb : Int) := by omega
  have H0 := Aside0.mk h0
  clear h0 hst hS hlt hN hT hp hu hf4
  by_cases hca : ca = p <;> by_cases hcb : cb = p
  all_goals (try (have h_ := Eq.symm hca; clear hca; subst h_))
  all_goals (try (have h_ := Eq.symm hcb; clear hcb; subst h_))
  all_goals (
    go_enter Tryd.func34, Tryd.ntmps34
    go_wp2_with fail
    refine (named_walk s _).mono ?_
    rw [HN.out]
    rintro e w1 ⟨rfl, hB1⟩
    have HB1 := Aside0.mk hB1
    have HR1 := Aside0.mk (show IsRk S w1 gh m from IsRk.below ⟨A, B, _, _, H0.out⟩ hB1)
    clear hB1
    go_wp2_with fail
    refine (place_walk S _ gh m HR1.out HST.out s).mono ?_
    rw [HP.out, HT.out]
    rintro e w2 ⟨rfl, hB2⟩
    have HP0 := Aside0.mk (Pair.start (S := fun _ => False) W.heap.size (Fr.of_below (S := fun _ => False) (below_step HB1.out hB2)))
    have c0 := (blk_cell (H0.out.frE HP0.out.fr).blk 0).trans (show _ = some (Value.slice A m.length _) from rfl)
    clear hB2
    go_wp2_with (first | ((with_reducible refine gate_builtin (b := .append) (xs := #[.tmp 40, .tmp 46]) rfl ?_); at_builtin; refine Kd.R_append_row Value.string ByteArray.empty (h1 := fun _ => rfl) (w0 := w2) W.heap.size rfl (.tmp 40) (.tmp 46) 26 9 (.string ⟨#[]⟩) 16 rfl Tryd.underlying26 info9 rfl (by decide) _ [] ((nmB m).take p) A p _ _ rfl rfl HP0.out.freshN HP0.out.okN (take_c (H0.out.frE HP0.out.fr).nm (by rw [nmB_len]; exact hle)) (Below.refl _ _) HP0.out.size (by simp only [List.length_nil]; omega) ?_; intro vw3 w3 hr_ hb_ hg_ _; have HP1 := Aside0.mk (HP0.out.left (Nat.le_refl _) hr_ hg_); have c1 := (blk_cell (H0.out.frE HP1.out.fr).blk 1).trans (show _ = some (Value.slice B m.length _) from rfl); have c0 := (blk_cell (H0.out.frE HP1.out.fr).blk 0).trans (show _ = some (Value.slice A m.length _) from rfl); clear hr_ hb_ hg_) | ((with_reducible refine gate_builtin (b := .append) (xs := #[.tmp 48, .tmp 54]) rfl ?_); at_builtin; refine Kd.R_append_row Value.string ByteArray.empty (h1 := fun _ => rfl) (w0 := w3) W.heap.size rfl (.tmp 48) (.tmp 54) 26 9 (.string ⟨#[]⟩) 16 rfl Tryd.underlying26 info9 rfl (by decide) _ [] ((kyB m).take p) B p _ _ rfl rfl HP1.out.freshK HP1.out.okK (take_c (H0.out.frE HP1.out.fr).ky (by rw [kyB_len]; exact hle)) (Below.refl _ _) HP1.out.size (by simp only [List.length_nil]; omega) ?_; intro vw4 w4 hr_ hb_ hg_ _; have HP2 := Aside0.mk (HP1.out.right (Nat.le_refl _) hr_ hg_); have c1 := (blk_cell (H0.out.frE HP2.out.fr).blk 1).trans (show _ = some (Value.slice B m.length _) from rfl); have c0 := (blk_cell (H0.out.frE HP2.out.fr).blk 0).trans (show _ = some (Value.slice A m.length _) from rfl); clear hr_ hb_ hg_) | ((with_reducible refine gate_builtin (b := .append) (xs := #[.tmp 56, .tmp 58]) rfl ?_); at_builtin; refine Kd.R_append Kd.string (w0 := w4) W.heap.size rfl (.tmp 56) (.tmp 58) 26 9 (.string ⟨#[]⟩) 16 rfl Tryd.underlying26 info9 rfl (by decide) (by decide) vw3 _ s [.string s] _ (fun _ => False) rfl rfl rfl (fun _ hk => hk.elim) HP2.out.freshN HP2.out.okN (Below.refl _ _) HP2.out.size (by simp only [List.nil_append, List.length_take, nmB_len, kyB_len]; omega) ?_; intro vw5 w5 hr_ hb_ hg_ _; have HP3 := Aside0.mk (HP2.out.left (Nat.le_refl _) hr_ hg_); have c1 := (blk_cell (H0.out.frE HP3.out.fr).blk 1).trans (show _ = some (Value.slice B m.length _) from rfl); have c0 := (blk_cell (H0.out.frE HP3.out.fr).blk 0).trans (show _ = some (Value.slice A m.length _) from rfl); clear hr_ hb_ hg_) | ((with_reducible refine gate_builtin (b := .append) (xs := #[.tmp 60, .tmp 62]) rfl ?_); at_builtin; refine Kd.R_append Kd.string (w0 := w5) W.heap.size rfl (.tmp 60) (.tmp 62) 26 9 (.string ⟨#[]⟩) 16 rfl Tryd.underlying26 info9 rfl (by decide) (by decide) vw4 _ k [.string k] _ (fun _ => False) rfl rfl rfl (fun _ hk => hk.elim) HP3.out.freshK HP3.out.okK (Below.refl _ _) HP3.out.size (by simp only [List.nil_append, List.length_take, nmB_len, kyB_len]; omega) ?_; intro vw6 w6 hr_ hb_ hg_ _; have HP4 := Aside0.mk (HP3.out.right (Nat.le_refl _) hr_ hg_); have c1 := (blk_cell (H0.out.frE HP4.out.fr).blk 1).trans (show _ = some (Value.slice B m.length _) from rfl); have c0 := (blk_cell (H0.out.frE HP4.out.fr).blk 0).trans (show _ = some (Value.slice A m.length _) from rfl); clear hr_ hb_ hg_) | ((with_reducible refine gate_builtin (b := .append) (xs := #[.tmp 68, .tmp 74]) rfl ?_); at_builtin; refine Kd.R_append_row Value.string ByteArray.empty (h1 := fun _ => rfl) (w0 := w6) W.heap.size rfl (.tmp 68) (.tmp 74) 26 9 (.string ⟨#[]⟩) 16 rfl Tryd.underlying26 info9 rfl (by decide) vw5 _ ((nmB m).drop p) _ _ _ _ rfl rfl HP4.out.freshN HP4.out.okN (by first | exact drop_c2 (H0.out.frE HP4.out.fr).nm (by rw [nmB_len]; omega) (nmB_len m) | exact all_c _ (by omega) (by first | exact nmB_len m | exact kyB_len m) | exact nil_c 0 (by rw [nmB_len]; have := H0.out.la; omega) (by have := H0.out.la; omega)) (Below.refl _ _) HP4.out.size (by simp only [List.nil_append, List.length_append, List.length_take, nmB_len, List.length_cons, List.length_nil]; omega) ?_; intro vw7 w7 hr_ hb_ hg_ _; obtain ⟨A7, n7, c7, rfl⟩ := slice_of hr_; have HP5 := Aside0.mk (HP4.out.left (Nat.le_refl _) hr_ hg_); have hb7 := (H0.out.frE HP5.out.fr).blk; have c1 := (blk_cell hb7 1).trans (show _ = some (Value.slice B m.length _) from rfl); have c0 := (blk_cell hb7 0).trans (show _ = some (Value.slice A m.length _) from rfl); have f0 := blk_frozen hb7 0; have HP6 := Aside0.mk (Pair.set (S := Only gh) (HP5.out.mono (fun _ h => h.elim)) (p := ⟨gh, 0, none⟩) rfl (HSS.out.2 gh HSS.out.1) (.slice A7 n7 c7)); have HB7 := Aside0.mk (blk_put hb7 0 (.slice A7 n7 c7) (show _ = #[.slice A7 n7 c7, Value.slice B m.length _] from rfl)); clear hr_ hb_ hg_ hb7) | ((with_reducible refine gate_builtin (b := .append) (xs := #[.tmp 79, .tmp 85]) rfl ?_); at_builtin; refine Kd.R_append_row Value.string ByteArray.empty (h1 := fun _ => rfl) (w0 := _) W.heap.size rfl (.tmp 79) (.tmp 85) 26 9 (.string ⟨#[]⟩) 16 rfl Tryd.underlying26 info9 rfl (by decide) vw6 _ ((kyB m).drop p) _ _ _ _ rfl rfl HP6.out.freshK HP6.out.okK (by first | exact drop_c2 (H0.out.ky.frS HP6.out.fr fun k hk => hk ▸ HSS.out.1) (by rw [kyB_len]; omega) (kyB_len m) | exact all_c _ (by omega) (by first | exact nmB_len m | exact kyB_len m) | exact nil_c 0 (by rw [kyB_len]; have := H0.out.lb; omega) (by have := H0.out.lb; omega)) (Below.refl _ _) HP6.out.size (by simp only [List.nil_append, List.length_append, List.length_take, kyB_len, List.length_cons, List.length_nil]; omega) ?_; intro vw8 w8 hr_ hb_ hg_ _; obtain ⟨A8, n8, c8, rfl⟩ := slice_of hr_; have HP7 := Aside0.mk (HP6.out.right (Nat.le_refl _) hr_ hg_); have hb8 := (hg_.block gh (blk_lt HB7.out) fun e => absurd (Kd.R_base HP6.out.k gh e.symm) (by have := HSS.out.2 gh HSS.out.1; omega)).trans HB7.out; have c1 := (blk_cell hb8 1).trans (show _ = some (Value.slice B m.length _) from rfl); have f1 := blk_frozen hb8 1; have HP8 := Aside0.mk (HP7.out.set (p := ⟨gh, 1, none⟩) rfl (HSS.out.2 gh HSS.out.1) (.slice A8 n8 c8)); have HB8 := Aside0.mk (blk_put hb8 1 (.slice A8 n8 c8) (show _ = #[.slice A7 n7 c7, .slice A8 n8 c8] from rfl)); clear hr_ hb_ hg_ hb8))
    all_goals (
      go_ret
      refine ⟨rfl, ?_, HP8.out.fr⟩
      have e1 := put_new HST.out s.data.toList k HU.out
      rw [HP.out] at e1
      exact rk_end HP8.out HB8.out (fun k hk hs => absurd (HSS.out.2 k hs) (by omega)) (by rw [List.nil_append, nm_cat (k := k), ← e1]) (by rw [List.nil_append, ky_cat (s := s), ← e1]) (put_len hfew s k (.inr HF4.out))))
end Go.Proofs.YtdnmllodefbekaaDoor.Au
end

section
namespace Go.Proofs.YtdnmllodefbekaaDoor.Au
open Go.RowKit Go.Lib Go.Shelf Go.Proofs.YtdnmllodefbekaaDoor.Sha Go.Proofs.YtdnmllodefbekaaDoorW.PrintWords Go.Proofs.YtdnmllodefbekaaDoorW.PrintLast Go.Proofs.YtdnmllodefbekaaDoorW.PrintMore
set_option linter.unusedVariables false
set_option linter.unusedSimpArgs false
set_option maxRecDepth 100000 in
set_option maxHeartbeats 4000000 in
theorem rput_walk (S : Nat → Prop) (W : World) (gh : Nat) (m : Ks) (hr : IsRk S W gh m) (hst : St m) (hS : S gh) (hlt : ∀ k, S k → k < W.heap.size) (s k : ByteArray) (hs : s.size ≤ maxLen) :
    Calls Tryd.prog 34 #[.pointer (some ⟨gh, 0, none⟩), .string s, .string k] W fun e W' => e = .returned (.int .i64 (put m s k).2) ∧ IsRk S W' gh (put m s k).1 ∧ Fr (Only gh) W W' := by
  cases hN : nameOk s with
  | false =>
    have HN := Aside0.mk hN
    have HR := Aside0.mk hr
    rw [show put m s k = (m, 10) from by unfold put; rw [hN]; rfl]
    clear hN hr hst hS hlt
    go_enter Tryd.func34, Tryd.ntmps34
    go_wp2_with fail
    refine (named_walk s _).mono ?_
    rw [HN.out]
    rintro e w1 ⟨rfl, hB1⟩
    have HB1 := Aside0.mk hB1
    clear hB1
    go_wp2
    go_ret
    exact ⟨rfl, HR.out.below HB1.out, Fr.of_below HB1.out⟩
  | true =>
    by_cases q : k.size = 0 ∨ 64 < k.size
    · have HN := Aside0.mk hN
      have HR := Aside0.mk hr
      have HST := Aside0.mk hst
      rw [show put m s k = (m, 2) from by unfold put; rw [hN, if_neg (by decide), if_pos q]]
      obtain ⟨T, hT⟩ : ∃ T, there m s = T := ⟨_, rfl⟩
      have HT := Aside0.mk hT
      have hq : (k.size : Int) < 1 ∨ (¬ (k.size : Int) < 1 ∧ (64 : Int) < (k.size : Int)) := by omega
      clear hN hr hst hS hlt q hT
      rcases hq with q1 | ⟨q1, q2⟩
      all_goals (
        go_enter Tryd.func34, Tryd.ntmps34
        go_wp2_with fail
        refine (named_walk s _).mono ?_
        rw [HN.out]
        rintro e w1 ⟨rfl, hB1⟩
        have HB1 := Aside0.mk hB1
        have HR1 := Aside0.mk (HR.out.below hB1)
        clear hB1
        go_wp2_with fail
        refine (place_walk S _ gh m HR1.out HST.out s).mono ?_
        rw [HT.out]
        rintro e w2 ⟨rfl, hB2⟩
        have HB2 := Aside0.mk (below_step HB1.out hB2)
        clear hB2
        go_wp2
        go_ret
        exact ⟨rfl, HR.out.below HB2.out, Fr.of_below HB2.out⟩)
    · cases hT : there m s with
      | true =>
        have e : put m s k = (FM.put m s.data.toList k, 0) := by unfold put; rw [hN, if_neg (by decide), if_neg q, if_neg (by rw [hT]; simp)]
        rw [e]
        exact rput_old S W gh m hr hst hS hlt s k hs hN (by omega) (by omega) hT
      | false =>
        by_cases hm : 4096 ≤ m.length
        · rw [show put m s k = (m, 2) from by unfold put; rw [hN, if_neg (by decide), if_neg q, if_pos ⟨hT, hm⟩]]
          have HN := Aside0.mk hN
          have HR := Aside0.mk hr
          have HST := Aside0.mk hst
          have HT := Aside0.mk hT
          have q1 : ¬ (k.size : Int) < 1 := by omega
          have q2 : ¬ (64 : Int) < (k.size : Int) := by omega
          have hm' : (4096 : Int) ≤ (m.length : Int) := by omega
          clear hN hr hst hS hlt q hT hm
          go_enter Tryd.func34, Tryd.ntmps34
          go_wp2_with fail
          refine (named_walk s _).mono ?_
          rw [HN.out]
          rintro e w1 ⟨rfl, hB1⟩
          have HB1 := Aside0.mk hB1
          have HR1 := Aside0.mk (HR.out.below hB1)
          clear hB1
          go_wp2_with fail
          refine (place_walk S _ gh m HR1.out HST.out s).mono ?_
          rw [HT.out]
          rintro e w2 ⟨rfl, hB2⟩
          have HB2 := Aside0.mk (below_step HB1.out hB2)
          obtain ⟨A, B, ca, cb, h1⟩ := HR1.out.below hB2
          have c0 := (blk_cell h1.blk 0).trans (show _ = some (Value.slice A m.length ca) from rfl)
          clear hB2 h1
          go_wp2
          go_ret
          exact ⟨rfl, HR.out.below HB2.out, Fr.of_below HB2.out⟩
        · have e : put m s k = (FM.put m s.data.toList k, 0) := by unfold put; rw [hN, if_neg (by decide), if_neg q, if_neg (by omega)]
          rw [e]
          exact rput_new S W gh m hr hst hS hlt s k hs hN (by omega) (by omega) hT (by omega)
/-- Two slices of the same texts are the same. -/
theorem same_walk (W : World) (S T : Nat → Prop) (A B : Option Addr) (l : List ByteArray) (c c' : Nat) (hA : StrsAt S W A l) (hB : StrsAt T W B l) :
    Calls Tryd.prog 38 #[.slice A l.length c, .slice B l.length c'] W fun e W' => e = .returned (.bool true) ∧ Below W.heap.size W W' := by
  have HA := Aside0.mk hA
  have HB := Aside0.mk hB
  have hlm : l.length ≤ 9223372036854775807 := by have := hA.1; unfold maxLen at this; omega
  clear hA hB
  go_enter Tryd.func38, Tryd.ntmps38
  go_wp2
  go_loopg [5] (l.length + 1) (fun kq v5 w' => ∃ j : Nat, v5 = .int .i64 (j : Int) ∧ Aside0 (j + kq = l.length + 1 ∧ j ≤ l.length) ∧ Aside0 (Below W.heap.size W w'))
  case atStart => exact ⟨0, rfl, ⟨by omega, Nat.zero_le _⟩, ⟨Below.refl _ _⟩⟩
  case round =>
    obtain ⟨j, rfl, HJ, HBl⟩ := hrel
    obtain ⟨j1, j2⟩ := HJ.out
    by_cases hj : j < l.length
    · obtain ⟨kq1, rfl⟩ : ∃ kq1, gk = kq1 + 1 := ⟨gk - 1, by omega⟩
      have hjj : (j : Int) < (l.length : Int) := by omega
      obtain ⟨ad, rfl, hc1⟩ := (HA.out.fr (Fr.of_below HBl.out)).at_ j hj
      obtain ⟨ad2, rfl, hc2⟩ := (HB.out.fr (Fr.of_below HBl.out)).at_ j hj
      go_wp2_with fail
      go_quiet (fail)
      go_wp2_with fail
      go_roundg kq1
      case measure => omega
      case rel => exact ⟨j + 1, by go_num, ⟨by omega, by omega⟩, ⟨pw_below_drewN HBl.out _⟩⟩
    · have hjj : ¬ (j : Int) < (l.length : Int) := by omega
      go_wp2
      go_ret
      exact ⟨rfl, HBl.out⟩
end Go.Proofs.YtdnmllodefbekaaDoor.Au
end

section
namespace Go.Proofs.YtdnmllodefbekaaDoor.Au
open Go.RowKit Go.Lib Go.Shelf Go.Proofs.YtdnmllodefbekaaDoor.Sha Go.Proofs.YtdnmllodefbekaaDoorW.PrintWords Go.Proofs.YtdnmllodefbekaaDoorW.PrintLast Go.Proofs.YtdnmllodefbekaaDoorW.PrintMore
set_option linter.unusedVariables false
set_option linter.unusedSimpArgs false
set_option maxRecDepth 100000 in
set_option maxHeartbeats 4000000 in
theorem rtake_old (S : Nat → Prop) (W : World) (gh : Nat) (m : Ks) (hr : IsRk S W gh m) (hst : St m) (hS : S gh) (hlt : ∀ k, S k → k < W.heap.size) (s : ByteArray) (hT : there m s = true) :
    Calls Tryd.prog 35 #[.pointer (some ⟨gh, 0, none⟩), .string s] W fun e W' => e = .returned (.int .i64 0) ∧ IsRk S W' gh (FM.del m s.data.toList) ∧ Fr (Only gh) W W' := by
  have HST := Aside0.mk hst
  have HSS := Aside0.mk (And.intro hS hlt)
  have HT := Aside0.mk hT
  have hle := pl_le m s.data.toList
  have hlt2 : pl m s.data.toList < m.length := by
    refine Decidable.byContradiction fun hn => ?_
    have := there_end hst s hn
    rw [hT] at this
    cases this
  obtain ⟨p, hp⟩ : ∃ p, pl m s.data.toList = p := ⟨_, rfl⟩
  have HP := Aside0.mk hp
  rw [hp] at hle hlt2
  obtain ⟨u, hu⟩ : ∃ u, FM.get m s.data.toList = some u := by
    unfold there at hT
    exact Option.isSome_iff_exists.1 hT
  have HU := Aside0.mk hu
  obtain ⟨A, B, ca, cb, h0⟩ := hr
  have hfew := h0.few
  have la : (m.length : Int) ≤ (ca : Int) := by have := h0.la; omega
  have lb : (m.length : Int) ≤ (cb : Int) := by have := h0.lb; omega
  have hpc : (p : Int) ≤ (ca : Int) := by omega
  have hpd : (p : Int) ≤ (cb : Int) := by omega
  have H0 := Aside0.mk h0
  clear h0 hst hS hlt hT hp hu
  by_cases hca : ca = p + 1 <;> by_cases hcb : cb = p + 1
  all_goals (try subst hca)
  all_goals (try subst hcb)
  all_goals (
    go_enter Tryd.func35, Tryd.ntmps35
    have HB1 := Aside0.mk (Below.refl W.heap.size W)
    have HR1 := Aside0.mk (show IsRk S W gh m from ⟨A, B, _, _, H0.out⟩)
    go_wp2_with fail
    refine (place_walk S _ gh m HR1.out HST.out s).mono ?_
    rw [HP.out, HT.out]
    rintro e w2 ⟨rfl, hB2⟩
    have HP0 := Aside0.mk (Pair.start (S := fun _ => False) W.heap.size (Fr.of_below (S := fun _ => False) (below_step HB1.out hB2)))
    have c0 := (blk_cell (H0.out.frE HP0.out.fr).blk 0).trans (show _ = some (Value.slice A m.length _) from rfl)
    clear hB2
    go_wp2_with (first | ((with_reducible refine gate_builtin (b := .append) (xs := #[.tmp 17, .tmp 23]) rfl ?_); at_builtin; refine Kd.R_append_row Value.string ByteArray.empty (h1 := fun _ => rfl) (w0 := w2) W.heap.size rfl (.tmp 17) (.tmp 23) 26 9 (.string ⟨#[]⟩) 16 rfl Tryd.underlying26 info9 rfl (by decide) _ [] ((nmB m).take p) A p _ _ rfl rfl HP0.out.freshN HP0.out.okN (take_c (H0.out.frE HP0.out.fr).nm (by rw [nmB_len]; exact hle)) (Below.refl _ _) HP0.out.size (by simp only [List.length_nil]; omega) ?_; intro vw3 w3 hr_ hb_ hg_ _; have HP1 := Aside0.mk (HP0.out.left (Nat.le_refl _) hr_ hg_); have c1 := (blk_cell (H0.out.frE HP1.out.fr).blk 1).trans (show _ = some (Value.slice B m.length _) from rfl); have c0 := (blk_cell (H0.out.frE HP1.out.fr).blk 0).trans (show _ = some (Value.slice A m.length _) from rfl); clear hr_ hb_ hg_) | ((with_reducible refine gate_builtin (b := .append) (xs := #[.tmp 25, .tmp 31]) rfl ?_); at_builtin; refine Kd.R_append_row Value.string ByteArray.empty (h1 := fun _ => rfl) (w0 := w3) W.heap.size rfl (.tmp 25) (.tmp 31) 26 9 (.string ⟨#[]⟩) 16 rfl Tryd.underlying26 info9 rfl (by decide) _ [] ((kyB m).take p) B p _ _ rfl rfl HP1.out.freshK HP1.out.okK (take_c (H0.out.frE HP1.out.fr).ky (by rw [kyB_len]; exact hle)) (Below.refl _ _) HP1.out.size (by simp only [List.length_nil]; omega) ?_; intro vw4 w4 hr_ hb_ hg_ _; have HP2 := Aside0.mk (HP1.out.right (Nat.le_refl _) hr_ hg_); have c1 := (blk_cell (H0.out.frE HP2.out.fr).blk 1).trans (show _ = some (Value.slice B m.length _) from rfl); have c0 := (blk_cell (H0.out.frE HP2.out.fr).blk 0).trans (show _ = some (Value.slice A m.length _) from rfl); clear hr_ hb_ hg_) | ((with_reducible refine gate_builtin (b := .append) (xs := #[.tmp 34, .tmp 41]) rfl ?_); at_builtin; refine Kd.R_append_row Value.string ByteArray.empty (h1 := fun _ => rfl) (w0 := w4) W.heap.size rfl (.tmp 34) (.tmp 41) 26 9 (.string ⟨#[]⟩) 16 rfl Tryd.underlying26 info9 rfl (by decide) vw3 _ ((nmB m).drop (p + 1)) _ _ _ _ rfl rfl HP2.out.freshN HP2.out.okN (by first | exact drop_c (H0.out.frE HP2.out.fr).nm (by rw [nmB_len]; omega) (nmB_len m) (by omega) | exact nil_c 0 (by rw [nmB_len]; have := H0.out.la; omega) (by have := H0.out.la; omega)) (Below.refl _ _) HP2.out.size (by simp only [List.nil_append, List.length_append, List.length_take, nmB_len, List.length_cons, List.length_nil]; omega) ?_; intro vw7 w7 hr_ hb_ hg_ _; obtain ⟨A7, n7, c7, rfl⟩ := slice_of hr_; have HP5 := Aside0.mk (HP2.out.left (Nat.le_refl _) hr_ hg_); have hb7 := (H0.out.frE HP5.out.fr).blk; have c1 := (blk_cell hb7 1).trans (show _ = some (Value.slice B m.length _) from rfl); have c0 := (blk_cell hb7 0).trans (show _ = some (Value.slice A m.length _) from rfl); have f0 := blk_frozen hb7 0; have HP6 := Aside0.mk (Pair.set (S := Only gh) (HP5.out.mono (fun _ h => h.elim)) (p := ⟨gh, 0, none⟩) rfl (HSS.out.2 gh HSS.out.1) (.slice A7 n7 c7)); have HB7 := Aside0.mk (blk_put hb7 0 (.slice A7 n7 c7) (show _ = #[.slice A7 n7 c7, Value.slice B m.length _] from rfl)); clear hr_ hb_ hg_ hb7) | ((with_reducible refine gate_builtin (b := .append) (xs := #[.tmp 46, .tmp 53]) rfl ?_); at_builtin; refine Kd.R_append_row Value.string ByteArray.empty (h1 := fun _ => rfl) (w0 := _) W.heap.size rfl (.tmp 46) (.tmp 53) 26 9 (.string ⟨#[]⟩) 16 rfl Tryd.underlying26 info9 rfl (by decide) vw4 _ ((kyB m).drop (p + 1)) _ _ _ _ rfl rfl HP6.out.freshK HP6.out.okK (by first | exact drop_c (H0.out.ky.frS HP6.out.fr fun k hk => hk ▸ HSS.out.1) (by rw [kyB_len]; omega) (kyB_len m) (by omega) | exact nil_c 0 (by rw [kyB_len]; have := H0.out.lb; omega) (by have := H0.out.lb; omega)) (Below.refl _ _) HP6.out.size (by simp only [List.nil_append, List.length_append, List.length_take, kyB_len, List.length_cons, List.length_nil]; omega) ?_; intro vw8 w8 hr_ hb_ hg_ _; obtain ⟨A8, n8, c8, rfl⟩ := slice_of hr_; have HP7 := Aside0.mk (HP6.out.right (Nat.le_refl _) hr_ hg_); have hb8 := (hg_.block gh (blk_lt HB7.out) fun e => absurd (Kd.R_base HP6.out.k gh e.symm) (by have := HSS.out.2 gh HSS.out.1; omega)).trans HB7.out; have c1 := (blk_cell hb8 1).trans (show _ = some (Value.slice B m.length _) from rfl); have f1 := blk_frozen hb8 1; have HP8 := Aside0.mk (HP7.out.set (p := ⟨gh, 1, none⟩) rfl (HSS.out.2 gh HSS.out.1) (.slice A8 n8 c8)); have HB8 := Aside0.mk (blk_put hb8 1 (.slice A8 n8 c8) (show _ = #[.slice A7 n7 c7, .slice A8 n8 c8] from rfl)); clear hr_ hb_ hg_ hb8))
    all_goals (
      go_ret
      refine ⟨rfl, ?_, HP8.out.fr⟩
      have e1 := (del_old m HST.out s.data.toList _ HU.out).1
      rw [HP.out] at e1
      exact rk_end HP8.out HB8.out (fun k hk hs => absurd (HSS.out.2 k hs) (by omega)) (by rw [List.nil_append, e1]; simp [nmB]) (by rw [List.nil_append, e1]; simp [kyB]) (Nat.le_trans (FM.len_del _ _) hfew)))
end Go.Proofs.YtdnmllodefbekaaDoor.Au
end

section
namespace Go.Proofs.YtdnmllodefbekaaDoor.Au
open Go.RowKit Go.Lib Go.Shelf Go.Proofs.YtdnmllodefbekaaDoor.Sha Go.Proofs.YtdnmllodefbekaaDoorW.PrintWords Go.Proofs.YtdnmllodefbekaaDoorW.PrintLast Go.Proofs.YtdnmllodefbekaaDoorW.PrintMore
set_option linter.unusedVariables false
set_option linter.unusedSimpArgs false
set_option maxRecDepth 100000 in
set_option maxHeartbeats 4000000 in
theorem rtake_walk (S : Nat → Prop) (W : World) (gh : Nat) (m : Ks) (hr : IsRk S W gh m) (hst : St m) (hS : S gh) (hlt : ∀ k, S k → k < W.heap.size) (s : ByteArray) :
    Calls Tryd.prog 35 #[.pointer (some ⟨gh, 0, none⟩), .string s] W fun e W' => e = .returned (.int .i64 (take m s).2) ∧ IsRk S W' gh (take m s).1 ∧ Fr (Only gh) W W' := by
  cases hT : there m s with
  | true =>
    rw [show take m s = (FM.del m s.data.toList, 0) from by unfold take; rw [hT]; rfl]
    exact rtake_old S W gh m hr hst hS hlt s hT
  | false =>
    rw [show take m s = (m, 5) from by unfold take; rw [hT]; rfl]
    have HR := Aside0.mk hr
    have HST := Aside0.mk hst
    have HT := Aside0.mk hT
    clear hr hst hS hlt hT
    go_enter Tryd.func35, Tryd.ntmps35
    go_wp2_with fail
    refine (place_walk S _ gh m HR.out HST.out s).mono ?_
    rw [HT.out]
    rintro e w2 ⟨rfl, hB2⟩
    have HB2 := Aside0.mk hB2
    clear hB2
    go_wp2
    go_ret
    exact ⟨rfl, HR.out.below HB2.out, Fr.of_below HB2.out⟩
theorem tl_ne {x y : ByteArray} (h : x ≠ y) : (x.toList == y.toList) = false := by
  rw [beq_eq_false_iff_ne]
  intro e
  rw [ByteArray.toList_eq, ByteArray.toList_eq] at e
  exact h (ByteArray.ext (Array.toList_inj.1 e))
theorem key_pl {m : Ks} (hs : St m) (s : ByteArray) (hT : there m s = true) : ∃ h : pl m s.data.toList < m.length, (kyB m).getD (pl m s.data.toList) ByteArray.empty = keyAt m s := by
  have hlt : pl m s.data.toList < m.length := by
    refine Decidable.byContradiction fun hn => ?_
    have := there_end hs s hn
    rw [hT] at this
    cases this
  refine ⟨hlt, ?_⟩
  unfold there at hT
  unfold keyAt
  rw [get_pl m hs, List.getElem?_eq_getElem hlt, Option.bind_some] at hT ⊢
  by_cases e : (m[pl m s.data.toList]).1 = s.data.toList
  · rw [if_pos e]
    simp [kyB, List.getD_eq_getElem?_getD, hlt]
  · rw [if_neg e] at hT
    cases hT
set_option maxRecDepth 100000 in
set_option maxHeartbeats 4000000 in
theorem rcheck_walk (S : Nat → Prop) (W : World) (gh : Nat) (m : Ks) (hr : IsRk S W gh m) (hst : St m) (hf : ∀ p ∈ m, p.2.size ≤ 64) (s c p : ByteArray) (hs : s.size ≤ 400000000) (hc : c.size ≤ 400000000) :
    Calls Tryd.prog 37 #[.pointer (some ⟨gh, 0, none⟩), .string s, .string c, .string p] W fun e W' => e = .returned (.int .i64 (check m s c p)) ∧ Below W.heap.size W W' := by
  have hks := keyAt_size hf s
  have HST := Aside0.mk hst
  have HR := Aside0.mk hr
  cases hT : there m s with
  | false =>
    rw [show check m s c p = 250 from by unfold check; rw [hT]; split <;> rfl]
    have HT := Aside0.mk hT
    clear hr hst hT
    go_enter Tryd.func37, Tryd.ntmps37
    go_wp2_with fail
    refine (place_walk S _ gh m HR.out HST.out s).mono ?_
    rw [HT.out]
    rintro e w2 ⟨rfl, hB2⟩
    have HB2 := Aside0.mk hB2
    clear hB2
    go_wp2
    go_ret
    exact ⟨rfl, HB2.out⟩
  | true =>
    have HT := Aside0.mk hT
    obtain ⟨hpl, hky⟩ := key_pl hst s hT
    obtain ⟨K, hK⟩ : ∃ K, keyAt m s = K := ⟨_, rfl⟩
    obtain ⟨P, hP⟩ : ∃ P, proofS K s c = P := ⟨_, rfl⟩
    rw [show check m s c p = if p = P then 0 else 250 from by unfold check; rw [hT, hK, hP]; rfl]
    rw [hK] at hks hky
    obtain ⟨j, hj⟩ : ∃ j, pl m s.data.toList = j := ⟨_, rfl⟩
    rw [hj] at hpl hky
    have HJ := Aside0.mk hj
    have HP := Aside0.mk hP
    have HKY := Aside0.mk hky
    have hpl' : (j : Int) < (m.length : Int) := by omega

    clear hr hst hT hj hP hK hky
    by_cases q : p = P
    · rw [if_pos q]
      subst q
      go_enter Tryd.func37, Tryd.ntmps37
      go_wp2_with fail
      refine (place_walk S _ gh m HR.out HST.out s).mono ?_
      rw [HT.out, HJ.out]
      rintro e w2 ⟨rfl, hB2⟩
      have HB2 := Aside0.mk hB2
      obtain ⟨A, B, ca, cb, h1⟩ := HR.out.below hB2
      have c1 := (blk_cell h1.blk 1).trans (show _ = some (Value.slice B m.length cb) from rfl)
      obtain ⟨ad, rfl, hx⟩ := h1.ky.at_ j (by rw [kyB_len]; exact hpl)
      rw [HKY.out] at hx
      clear hB2 h1
      go_wp2_with fail
      refine (rproof_walk K s c _ (by omega) hs hc).mono ?_
      rw [HP.out]
      rintro e w3 ⟨rfl, hB3⟩
      have HB3 := Aside0.mk (below_step HB2.out hB3)
      clear hB3
      go_wp2
      go_ret
      exact ⟨rfl, HB3.out⟩
    · rw [if_neg q]
      have t1 := tl_ne q
      clear q
      go_enter Tryd.func37, Tryd.ntmps37
      go_wp2_with fail
      refine (place_walk S _ gh m HR.out HST.out s).mono ?_
      rw [HT.out, HJ.out]
      rintro e w2 ⟨rfl, hB2⟩
      have HB2 := Aside0.mk hB2
      obtain ⟨A, B, ca, cb, h1⟩ := HR.out.below hB2
      have c1 := (blk_cell h1.blk 1).trans (show _ = some (Value.slice B m.length cb) from rfl)
      obtain ⟨ad, rfl, hx⟩ := h1.ky.at_ j (by rw [kyB_len]; exact hpl)
      rw [HKY.out] at hx
      clear hB2 h1
      go_wp2_with fail
      refine (rproof_walk K s c _ (by omega) hs hc).mono ?_
      rw [HP.out]
      rintro e w3 ⟨rfl, hB3⟩
      have HB3 := Aside0.mk (below_step HB2.out hB3)
      clear hB3
      go_wp2
      go_ret
      exact ⟨rfl, HB3.out⟩
end Go.Proofs.YtdnmllodefbekaaDoor.Au
end

section
namespace Go.Proofs.YtdnmllodefbekaaDoor.Au
open Go.RowKit Go.Deep Go.ChangeShapes Go.WideShapes Go.Proofs.YtdnmllodefbekaaDoorW.PrintWords
set_option linter.unusedVariables false
set_option linter.unusedSimpArgs false
structure Act6 where
  kd : Int
  nm : ByteArray
  ky : ByteArray
  tx : ByteArray
  dr : Int
  nb : Int
structure ActOk (a : Act6) : Prop where
  kd : (Lit.int .i64 a.kd).wf = true
  nm : a.nm.size ≤ 140737488351232
  ky : a.ky.size ≤ 140737488351232
  tx : a.tx.size ≤ 140737488351232
  dr : (Lit.int .u64 a.dr).wf = true
  nb : (Lit.int .i64 a.nb).wf = true
/-- Acts that lie one behind the other, six cells each. -/
def ActsAt (W : World) (A : Option Addr) (acts : List Act6) : Prop := acts.length ≤ maxLen ∧ ∀ i (h : i < acts.length), ActOk acts[i] ∧ ∃ ad, A = some ad ∧ ad.block < W.heap.size ∧
  W.cell? (ad.add (i * 6)) = some (.int .i64 acts[i].kd) ∧ W.cell? (ad.add (i * 6 + 1)) = some (.string acts[i].nm) ∧ W.cell? (ad.add (i * 6 + 2)) = some (.string acts[i].ky) ∧ W.cell? (ad.add (i * 6 + 3)) = some (.string acts[i].tx) ∧ W.cell? (ad.add (i * 6 + 4)) = some (.int .u64 acts[i].dr) ∧ W.cell? (ad.add (i * 6 + 5)) = some (.int .i64 acts[i].nb)
theorem ActsAt.move {W W1 : World} {A : Option Addr} {acts : List Act6} (h : ActsAt W A acts) (hb : Go.RowKit.Below W.heap.size W W1) : ActsAt W1 A acts := by
  refine ⟨h.1, fun i hi => ?_⟩
  obtain ⟨ho, ad, rfl, hl, h0, h1, h2, h3, h4, h5⟩ := h.2 i hi
  have hk : ∀ k, W1.cell? (ad.add k) = W.cell? (ad.add k) := fun k => World.cell?_of_block (by rw [add_block']; exact hb.block _ hl)
  exact ⟨ho, ad, rfl, Nat.lt_of_lt_of_le hl hb.size, (hk _).trans h0, (hk _).trans h1, (hk _).trans h2, (hk _).trans h3, (hk _).trans h4, (hk _).trans h5⟩
section
variable {H : Type} {enc : TypeId × Value → H} {W : World} {base : Nat} {spare : Nat → Bool} {held : Bool}
theorem six {α : Type} {l : List α} (h : l.length = 6) : ∃ a b c d e f, l = [a, b, c, d, e, f] := by
  match l, h with
  | [a, b, c, d, e, f], _ => exact ⟨a, b, c, d, e, f, rfl⟩
theorem act_open {fuel : Nat} {cs : List Value} {x : DataW H × List MemPlace} (h : DataW.trod enc Tryd.prog W base spare held fuel 56 cs = some x) :
    ∃ (c0 c1 c2 c3 c4 c5 : Value) (y0 y1 y2 y3 y4 y5 : DataW H × List MemPlace) (n : Nat), cs = [c0, c1, c2, c3, c4, c5] ∧ x.1 = .agg [y0.1, y1.1, y2.1, y3.1, y4.1, y5.1] ∧
      DataW.trod enc Tryd.prog W base spare held n 3 [c0] = some y0 ∧ DataW.trod enc Tryd.prog W base spare held n 9 [c1] = some y1 ∧ DataW.trod enc Tryd.prog W base spare held n 9 [c2] = some y2 ∧ DataW.trod enc Tryd.prog W base spare held n 9 [c3] = some y3 ∧ DataW.trod enc Tryd.prog W base spare held n 33 [c4] = some y4 ∧ DataW.trod enc Tryd.prog W base spare held n 3 [c5] = some y5 := by
  have k56 : Tryd.prog.cellsOf 56 = 6 := by kernel_rfl
  have k3 : Tryd.prog.cellsOf 3 = 1 := by kernel_rfl
  have k9 : Tryd.prog.cellsOf 9 = 1 := by kernel_rfl
  have k33 : Tryd.prog.cellsOf 33 = 1 := by kernel_rfl
  obtain ⟨xs, n, _, hx, hlen, hxl, hg⟩ := DataW.trod_struct Tryd.underlying56 h
  rw [k56] at hlen
  obtain ⟨c0, c1, c2, c3, c4, c5, rfl⟩ := six hlen
  obtain ⟨y0, y1, y2, y3, y4, y5, rfl⟩ := six hxl
  refine ⟨c0, c1, c2, c3, c4, c5, y0, y1, y2, y3, y4, y5, n, rfl, by rw [hx]; rfl, ?_, ?_, ?_, ?_, ?_, ?_⟩
  · simpa [k3] using hg 0 _ rfl
  · simpa [k9] using hg 1 _ rfl
  · simpa [k9] using hg 2 _ rfl
  · simpa [k9] using hg 3 _ rfl
  · simpa [k33] using hg 4 _ rfl
  · simpa [k3] using hg 5 _ rfl
theorem weightsAll_mem {P : Program} {e : TypeId} {d : DataW H} {n : Nat} (hn : n ∈ d.weights P e) : ∀ {ds : List (DataW H)}, d ∈ ds → n ∈ DataW.weightsAll P e ds
  | x :: r, h => by
    simp only [DataW.weightsAll, List.mem_append]
    rcases List.mem_cons.1 h with rfl | h
    · exact .inl hn
    · exact .inr (weightsAll_mem hn h)
theorem list_of {α : Type} {P : Nat → α → Prop} : ∀ {n : Nat}, (∀ i, i < n → ∃ x, P i x) → ∃ l : List α, l.length = n ∧ ∀ i (h : i < l.length), P i l[i]
  | 0, _ => ⟨[], rfl, fun i h => absurd h (by simp)⟩
  | n + 1, h => by
    obtain ⟨l, hl, hp⟩ := list_of (n := n) fun i hi => h i (by omega)
    obtain ⟨x, hx⟩ := h n (by omega)
    refine ⟨l ++ [x], by simp [hl], fun i hi => ?_⟩
    by_cases hil : i < l.length
    · rw [List.getElem_append_left hil]; exact hp i hil
    · have : i = n := by simp at hi; omega
      subst this
      rw [List.getElem_append_right (by omega)]
      simpa [hl] using hx
set_option maxRecDepth 100000 in
theorem acts_open {v : Value} {d : DataW H} {ps : List MemPlace} {ts : List TypeId} {ds : List (DataW H)} {j : Nat}
    (hsz : (DataW.weightsEach Tryd.prog ts ds).all (· ≤ reachBytes) = true) (htj : ts[j]? = some 51) (hdj : ds[j]? = some d)
    (hv : Value.okWide Tryd.prog W .any base 51 v) (h : DataW.Trod enc Tryd.prog W 0 (fun _ => true) true 51 v d ps) :
    ∃ (A : Option Addr) (acts : List Act6) (c : Nat), v = .slice A acts.length c ∧ ActsAt W A acts ∧ acts.length ≤ c := by
  obtain ⟨A, n, c, rfl⟩ := okWide_slice Tryd.underlying51 hv
  obtain ⟨fuel, hf⟩ := h
  have k56 : Tryd.prog.cellsOf 56 = 6 := by kernel_rfl
  rcases open_slice Tryd.underlying51 hf with ⟨hcs, _⟩ | ⟨x, l, cc, m, n2, D, Pl, hcs, _, hl, hm, hmm, hx, hi⟩
  · simp [Value.cells] at hcs
    obtain ⟨rfl, rfl, rfl⟩ := hcs
    exact ⟨none, [], 0, rfl, ⟨by simp, fun i hi => absurd hi (by simp)⟩, Nat.le_refl _⟩
  · simp [Value.cells] at hcs
    obtain ⟨rfl, rfl, rfl⟩ := hcs
    have hmc : m = c := by simpa using hmm
    subst hmc
    obtain ⟨hxd, _⟩ := Prod.mk.inj hx
    have hall := DataW.weights_mem_each (P := Tryd.prog) htj hdj
    have hstr : ∀ i, i < n → ∀ b ∈ DataW.weights Tryd.prog 56 (D i), b ≤ 140737488351232 := fun i hin b hb => by
      have hmem : b ∈ DataW.weights Tryd.prog 51 d := by
        rw [hxd]
        simp only [DataW.weights, Tryd.underlying51, List.mem_cons, List.mem_append]
        exact .inr (.inl (weightsAll_mem hb (List.mem_map.2 ⟨i, List.mem_range.2 hin, rfl⟩)))
      have := List.all_eq_true.1 hsz _ (hall b hmem)
      have hr : reachBytes ≤ 140737488351232 := by decide
      have h2 : b ≤ reachBytes := by simpa using this
      omega
    obtain ⟨acts, hal, hacts⟩ := list_of (n := n) (P := fun i (a : Act6) => ActOk a ∧ x.block < W.heap.size ∧
      W.cell? (x.add (i * 6)) = some (.int .i64 a.kd) ∧ W.cell? (x.add (i * 6 + 1)) = some (.string a.nm) ∧ W.cell? (x.add (i * 6 + 2)) = some (.string a.ky) ∧ W.cell? (x.add (i * 6 + 3)) = some (.string a.tx) ∧ W.cell? (x.add (i * 6 + 4)) = some (.int .u64 a.dr) ∧ W.cell? (x.add (i * 6 + 5)) = some (.int .i64 a.nb)) (fun i hin => by
        obtain ⟨cs', hc, ht'⟩ := hi i (by omega)
        rw [k56] at hc
        obtain ⟨c0, c1, c2, c3, c4, c5, y0, y1, y2, y3, y4, y5, n', rfl, hD, t0, t1, t2, t3, t4, t5⟩ := act_open ht'
        obtain ⟨_, _, hat⟩ := World.cells?_some hc
        obtain ⟨kd, e0, _, w0⟩ := DataW.trod_int Tryd.underlying3 t0
        obtain ⟨nm, e1, f1, w1⟩ := DataW.trod_string Tryd.underlying9 t1
        obtain ⟨ky, e2, f2, w2⟩ := DataW.trod_string Tryd.underlying9 t2
        obtain ⟨tx, e3, f3, w3⟩ := DataW.trod_string Tryd.underlying9 t3
        obtain ⟨dr, e4, _, w4⟩ := DataW.trod_int Tryd.underlying33 t4
        obtain ⟨nb, e5, _, w5⟩ := DataW.trod_int Tryd.underlying3 t5
        simp only [List.cons.injEq, and_true] at e0 e1 e2 e3 e4 e5
        subst e0 e1 e2 e3 e4 e5
        have hw : ∀ b ∈ DataW.weightsEach Tryd.prog [3, 9, 9, 9, 33, 3] [y0.1, y1.1, y2.1, y3.1, y4.1, y5.1], b ≤ 140737488351232 := fun b hb => hstr i hin b (by
          rw [show D i = .agg [y0.1, y1.1, y2.1, y3.1, y4.1, y5.1] from hD]
          simp only [DataW.weights, Tryd.underlying56]
          exact hb)
        have hnm : nm.size ≤ 140737488351232 := by
          have := hw nm.data.toList.length (DataW.weights_mem_each (j := 1) rfl rfl _ (by rw [f1]; simp [DataW.weights]))
          rwa [Array.length_toList] at this
        have hky : ky.size ≤ 140737488351232 := by
          have := hw ky.data.toList.length (DataW.weights_mem_each (j := 2) rfl rfl _ (by rw [f2]; simp [DataW.weights]))
          rwa [Array.length_toList] at this
        have htx : tx.size ≤ 140737488351232 := by
          have := hw tx.data.toList.length (DataW.weights_mem_each (j := 3) rfl rfl _ (by rw [f3]; simp [DataW.weights]))
          rwa [Array.length_toList] at this
        have g0 := hat 0 (by decide)
        have g1 := hat 1 (by decide)
        have g2 := hat 2 (by decide)
        have g3 := hat 3 (by decide)
        have g4 := hat 4 (by decide)
        have g5 := hat 5 (by decide)
        have hblk := World.block_lt_of_cell? W _ g0
        rw [add_block', add_block'] at hblk
        refine ⟨⟨kd, nm, ky, tx, dr, nb⟩, ⟨w0, hnm, hky, htx, w4, w5⟩, hblk, ?_, ?_, ?_, ?_, ?_, ?_⟩
        · rw [Au.add_add] at g0; exact g0
        · rw [Au.add_add] at g1; exact g1
        · rw [Au.add_add] at g2; exact g2
        · rw [Au.add_add] at g3; exact g3
        · rw [Au.add_add] at g4; exact g4
        · rw [Au.add_add] at g5; exact g5)
    refine ⟨some x, acts, m, by rw [hal], ⟨by omega, fun i hi2 => ?_⟩, by omega⟩
    obtain ⟨ho, hb, h0, h1, h2, h3, h4, h5⟩ := hacts i hi2
    exact ⟨ho, x, rfl, hb, h0, h1, h2, h3, h4, h5⟩
end
end Go.Proofs.YtdnmllodefbekaaDoor.Au
end

section
namespace Go.Proofs.YtdnmllodefbekaaDoor.Au
open Go.RowKit Go.Lib Go.Shelf Go.Proofs.YtdnmllodefbekaaDoor.Sha Go.Proofs.YtdnmllodefbekaaDoorW.PrintWords Go.Proofs.YtdnmllodefbekaaDoorW.PrintLast Go.Proofs.YtdnmllodefbekaaDoorW.PrintMore
set_option linter.unusedVariables false
set_option linter.unusedSimpArgs false
/-- What stands through the loop: the program's keys (block g, map b), the document's (block h). -/
structure PL (w W : World) (g b h : Nat) (m : Ks) : Prop where
  au : IsAu W g b m
  rk : IsRk (fun k => k = b ∨ k = h) W h m
  st : St m
  below : Below w.heap.size w W
theorem PL.step {w W W1 : World} {g b h : Nat} {m : Ks} (hp : PL w W g b h m) (hb : Below W.heap.size W W1) : PL w W1 g b h m :=
  ⟨hp.au.below hb, hp.rk.below hb, hp.st, below_step hp.below hb⟩
theorem u64_r {n : Int} (h : (Lit.int .u64 n).wf = true) : 0 ≤ n ∧ n < 18446744073709551616 := by
  simp [Lit.wf, IntKind.min, IntKind.max, IntKind.bits, IntKind.signed] at h
  omega
/-- The act's own block. -/
structure XC (W : World) (k : Nat) (kd : Int) (nm ky tx : ByteArray) (dr nb : Int) : Prop where
  c0 : W.cell? ⟨k, 0, none⟩ = some (.int .i64 kd)
  c1 : W.cell? ⟨k, 1, none⟩ = some (.string nm)
  c2 : W.cell? ⟨k, 2, none⟩ = some (.string ky)
  c3 : W.cell? ⟨k, 3, none⟩ = some (.string tx)
  c4 : W.cell? ⟨k, 4, none⟩ = some (.int .u64 dr)
  c5 : W.cell? ⟨k, 5, none⟩ = some (.int .i64 nb)
structure XA (W : World) (k : Nat) (kd : Int) (nm ky tx : ByteArray) (dr nb : Int) : Prop where
  cells : XC W k kd nm ky tx dr nb
  lt : k < W.heap.size
theorem xa_new (W : World) (kd : Int) (nm ky tx : ByteArray) (dr nb : Int) : XA (W.alloc (.cells #[.int .i64 kd, .string nm, .string ky, .string tx, .int .u64 dr, .int .i64 nb] 56)) W.heap.size kd nm ky tx dr nb := by
  have h := heap_alloc_new W (.cells #[.int .i64 kd, .string nm, .string ky, .string tx, .int .u64 dr, .int .i64 nb] 56)
  exact ⟨⟨blk_cell h 0, blk_cell h 1, blk_cell h 2, blk_cell h 3, blk_cell h 4, blk_cell h 5⟩, by simp⟩
theorem XA.fr {W W1 : World} {k : Nat} {kd : Int} {nm ky tx : ByteArray} {dr nb : Int} {S : Nat → Prop} (h : XA W k kd nm ky tx dr nb) (hf : Fr S W W1) (hs : ¬ S k) : XA W1 k kd nm ky tx dr nb := by
  have e := hf.block k h.lt hs
  have hc : ∀ i, W1.cell? ⟨k, i, none⟩ = W.cell? ⟨k, i, none⟩ := fun i => by
    unfold World.cell?
    simp only
    rw [e]
  exact ⟨⟨(hc _).trans h.cells.c0, (hc _).trans h.cells.c1, (hc _).trans h.cells.c2, (hc _).trans h.cells.c3, (hc _).trans h.cells.c4, (hc _).trans h.cells.c5⟩, Nat.lt_of_lt_of_le h.lt hf.size⟩
theorem XA.move {W W1 : World} {k : Nat} {kd : Int} {nm ky tx : ByteArray} {dr nb : Int} (h : XA W k kd nm ky tx dr nb) (hb : Below W.heap.size W W1) : XA W1 k kd nm ky tx dr nb := h.fr (Fr.of_below (S := fun _ => False) hb) (fun h => h)
theorem far_cell {W : World} {ad : Addr} {i k : Nat} {v : Value} (h : W.cell? (ad.add (i + (k + 1))) = some v) : W.cell? ⟨(ad.add i).block, (ad.add i).off + (k + 1), none⟩ = some v := by
  have e : (⟨(ad.add i).block, (ad.add i).off + (k + 1), none⟩ : Addr) = ad.add (i + (k + 1)) := by
    obtain ⟨a, b, c⟩ := ad
    by_cases hi : i = 0
    · subst hi; simp [Addr.add]
    · simp [Addr.add, hi, Nat.add_assoc]
  rw [e]
  exact h
theorem put_st {m : Ks} (h : St m) (n k : ByteArray) : St (put m n k).1 := by
  rcases put_two m n k with e | ⟨e, -⟩
  · rw [e]; exact h.put _ _
  · rw [e]; exact h
theorem take_st {m : Ks} (h : St m) (n : ByteArray) : St (take m n).1 := by
  unfold take
  by_cases e : there m n = true
  · rw [if_pos e]; exact h.del _
  · rw [if_neg e]; exact h
theorem PL.two {w W6 W7 W8 : World} {g b h : Nat} {m m' : Ks} (hp : PL w W6 g b h m) (h7 : IsAu W7 g b m') (f7 : Fr (Only b) W6 W7) (h8 : IsRk (fun k => k = b ∨ k = h) W8 h m') (f8 : Fr (Only h) W7 W8) (hst : St m') (n1 : g ≠ h) (n2 : b ≠ h) (hb : w.heap.size ≤ b) (hh : w.heap.size ≤ h) : PL w W8 g b h m' :=
  ⟨h7.fr f8 n1 n2, h8, hst, f8.below (f7.below hp.below fun k hk => by unfold Only at hk; omega) fun k hk => by unfold Only at hk; omega⟩
theorem PL.lts {w W : World} {g b h : Nat} {m : Ks} (hp : PL w W g b h m) : ∀ k, (k = b ∨ k = h) → k < W.heap.size := fun k hk => by
  obtain ⟨A, B, ca, cb, hr⟩ := hp.rk
  rcases hk with rfl | rfl
  · exact hp.au.lt.2
  · exact blk_lt hr.blk
theorem names_nm {m : Ks} (h : St m) : nameL m = nmB m := by
  unfold nameL nmB
  rw [names_keys h]
  simp [FM.keys]
theorem names_walk' (W : World) (g b : Nat) (m : Ks) (h : IsAu W g b m) (hs : St m) : Calls Tryd.prog 39 #[.pointer (some ⟨g, 0, none⟩)] W fun e W' => ∃ A c, e = .returned (.slice A m.length c) ∧ StrsAt (fun _ => False) W' A (nmB m) ∧ Below W.heap.size W W' :=
  (names_walk W g b m h).mono fun e W' ⟨v, he, ho, hb⟩ => by
    obtain ⟨A, c, rfl, hA, -, -⟩ := own_row (S := fun _ => False) ho fun _ _ h => h
    rw [names_nm hs] at hA he
    rw [nmB_len] at he
    exact ⟨A, c, he, hA, hb⟩
theorem same_walk' (W : World) (S T : Nat → Prop) (A B : Option Addr) (l : List ByteArray) (n c c' : Nat) (hl : l.length = n) (hA : StrsAt S W A l) (hB : StrsAt T W B l) :
    Calls Tryd.prog 38 #[.slice A n c, .slice B n c'] W fun e W' => e = .returned (.bool true) ∧ Below W.heap.size W W' := by
  subst hl
  exact same_walk W S T A B l c c' hA hB
end Go.Proofs.YtdnmllodefbekaaDoor.Au
end

section
namespace Go.Proofs.YtdnmllodefbekaaDoor.Au
open Go.RowKit Go.Lib Go.Shelf Go.Proofs.YtdnmllodefbekaaDoor.Sha Go.Proofs.YtdnmllodefbekaaDoorW.PrintWords Go.Proofs.YtdnmllodefbekaaDoorW.PrintLast Go.Proofs.YtdnmllodefbekaaDoorW.PrintMore
set_option linter.unusedVariables false
set_option linter.unusedSimpArgs false
set_option maxRecDepth 100000 in
set_option maxHeartbeats 8000000 in
theorem plays_law (A : Option Addr) (acts : List Act6) (c : Nat) (w : World) (hA : ActsAt w A acts) (hc : acts.length ≤ c) (hL : Laid w) (h2 : 2 ≤ w.heap.size) :
    Calls Tryd.prog 10 #[.slice A acts.length c] w fun e w' => e = .returned (.bool true) ∧ Below w.heap.size w w' := by
  have HA := Aside0.mk hA
  have HL := Aside0.mk hL
  have hcm : acts.length ≤ 9223372036854775807 := by have := hA.1; unfold maxLen at this; omega
  clear hA hL
  go_enter Tryd.func10, Tryd.ntmps10
  go_wp2_with fail
  refine (new_walk w).mono ?_
  rintro e w1 ⟨rfl, hI1, hB1⟩
  have HI1 := Aside0.mk hI1
  have HB1 := Aside0.mk hB1
  clear hI1 hB1
  obtain ⟨s, hs⟩ : ∃ s, w.heap.size = s := ⟨_, rfl⟩
  have hsw : w.heap.size ≤ s := Nat.le_of_eq hs
  rw [hs] at HI1
  have hl1 := HI1.out.lt
  obtain ⟨h, hh⟩ : ∃ h, w1.heap.size = h := ⟨_, rfl⟩
  rw [show w.heap.size + 1 = s + 1 by omega]
  go_wp2_with fail
  have hP0 : PL w (w1.alloc (.cells #[.slice none 0 0, .slice none 0 0] 54)) (s + 1) s h [] :=
    ⟨HI1.out.below (below_alloc (Below.refl _ _) _), ⟨none, none, 0, 0, by rw [← hh]; exact heap_alloc_new w1 _, ⟨by decide, fun hp => absurd hp (by decide)⟩, ⟨by decide, fun hp => absurd hp (by decide)⟩, Nat.le_refl _, Nat.le_refl _, Nat.zero_le _, Nat.zero_le _, by decide⟩, List.Pairwise.nil, below_alloc HB1.out _⟩
  have HP0 := Aside0.mk hP0
  have hne : s + 1 < h ∧ s < h := by omega
  clear hP0 hh
  generalize (w1.alloc (.cells #[.slice none 0 0, .slice none 0 0] 54)) = w2 at *
  go_loopg [5] 61 (fun kq v5 w' => ∃ (i : Nat) (m : Ks), v5 = .int .i64 (i : Int) ∧ Aside0 (i + kq = 61 ∧ i ≤ 60) ∧ Aside0 (PL w w' (s + 1) s h m))
  case atStart => exact ⟨0, [], rfl, ⟨rfl, Nat.zero_le _⟩, HP0⟩
  case round =>
    obtain ⟨i, m, rfl, HI, HN⟩ := hrel
    clear HP0
    by_cases q : i < acts.length ∧ i < 60
    · obtain ⟨q1, q2⟩ := q
      obtain ⟨kq1, rfl⟩ : ∃ kq1, gk = kq1 + 1 := ⟨gk - 1, by have := HI.out; omega⟩
      have hA1 := (HA.out.move HN.out.below).2 i q1
      obtain ⟨⟨kd, nm, ky, tx, dr, nb⟩, hact⟩ : ∃ a, acts[i] = a := ⟨_, rfl⟩
      rw [hact] at hA1
      obtain ⟨ho, ad, rfl, hlt, x0, x1, x2, x3, x4, x5⟩ := hA1
      simp only at x0 x1 x2 x3 x4 x5
      have HO := Aside0.mk ho
      have q1' : (i : Int) < (acts.length : Int) := by omega
      have q2' : (i : Int) < 60 := by omega
      have y1 := far_cell x1
      have y2 := far_cell x2
      have y3 := far_cell x3
      have y4 := far_cell x4
      have y5 := far_cell x5
      have HQ := Aside0.mk (And.intro q1 q2)
      clear q1 q2 ho hact
      have HX := Aside0.mk (show XA (wr.alloc (.cells #[.int .i64 kd, .string nm, .string ky, .string tx, .int .u64 dr, .int .i64 nb] 56)) wr.heap.size kd nm ky tx dr nb from xa_new wr kd nm ky tx dr nb)
      have HN1 := Aside0.mk (HN.out.step (below_alloc (Below.refl _ _) (.cells #[.int .i64 kd, .string nm, .string ky, .string tx, .int .u64 dr, .int .i64 nb] 56)))
      have hkl := And.intro (HN.out.lts s (.inl rfl)) (HN.out.lts h (.inr rfl))
      by_cases hbig : 5000 < nm.size ∨ 5000 < ky.size ∨ 5000 < tx.size
      · have hb' : (5000 : Int) < (nm.size : Int) ∨ (¬ (5000 : Int) < (nm.size : Int) ∧ (5000 : Int) < (ky.size : Int)) ∨ (¬ (5000 : Int) < (nm.size : Int) ∧ ¬ (5000 : Int) < (ky.size : Int) ∧ (5000 : Int) < (tx.size : Int)) := by omega
        clear hbig
        rcases hb' with b1 | ⟨b1, b2⟩ | ⟨b1, b2, b3⟩
        all_goals (
          go_wp2_with fail
          refine (works_walk _ (HL.out.step HN1.out.below h2) (Nat.le_trans h2 HN1.out.below.size)).mono ?_
          rintro e w4 ⟨rfl, hB4⟩
          have HB4 := Aside0.mk (below_step HN1.out.below hB4)
          clear hB4
          go_wp2
          go_ret
          exact ⟨rfl, HB4.out⟩)
      · have b1 : ¬ (5000 : Int) < (nm.size : Int) := by omega
        have b2 : ¬ (5000 : Int) < (ky.size : Int) := by omega
        have b3 : ¬ (5000 : Int) < (tx.size : Int) := by omega
        clear hbig
        go_wp2_with fail
        clear x0 x1 x2 x3 x4 x5 y1 y2 y3 y4 y5
        generalize hkx : wr.heap.size = kx at *
        generalize (wr.alloc (.cells #[.int .i64 kd, .string nm, .string ky, .string tx, .int .u64 dr, .int .i64 nb] 56)) = w3 at *
        refine (chal_walk dr nb (u64_r HO.out.dr).1 (u64_r HO.out.dr).2 _ (HL.out.step HN1.out.below h2) (Nat.le_trans h2 HN1.out.below.size)).mono ?_
        rintro e w4 ⟨rfl, hB4⟩
        have HN4 := Aside0.mk (HN1.out.step hB4)
        have HX4 := Aside0.mk (HX.out.move hB4)
        obtain ⟨C, hC⟩ : ∃ C, chalS dr nb = C := ⟨_, rfl⟩
        have sC : C.size = 32 := by rw [← hC]; exact chalS_size _ _
        have HC := Aside0.mk hC
        rw [hC]
        obtain ⟨c0, c1, c2, c3, c4, c5⟩ := HX4.out.cells
        clear hB4 hC HX HN
        go_wp2_with fail
        refine (rchal_walk dr nb (u64_r HO.out.dr).1 (u64_r HO.out.dr).2 _).mono ?_
        rw [HC.out]
        rintro e w5 ⟨rfl, hB5⟩
        have HN5 := Aside0.mk (HN4.out.step hB5)
        have HX5 := Aside0.mk (HX4.out.move hB5)
        clear hB5 c0 c1 c2 c3 c4 c5
        obtain ⟨c0, c1, c2, c3, c4, c5⟩ := HX5.out.cells
        obtain ⟨r, hr⟩ : ∃ r, Int.tmod (wrap64 ((Int.tmod kd 4) + 4)) 4 = r := ⟨_, rfl⟩
        have HR := Aside0.mk hr
        clear hr
        go_wp2_with fail
        refine (HAuthPlays.hopperlaw25_among.calls kd 4 r w5 (by unfold HAuthPlays.hopperlaw25_among.f; rw [if_neg (by decide), HR.out])).mono ?_
        rintro e w6 ⟨rfl, hD6⟩
        have HN6 := Aside0.mk (HN5.out.step hD6.below)
        have HX6 := Aside0.mk (HX5.out.move hD6.below)
        clear hD6 c0 c1 c2 c3 c4 c5
        obtain ⟨c0, c1, c2, c3, c4, c5⟩ := HX6.out.cells
        have hnm : nm.size ≤ maxLen := by unfold maxLen; omega
        have hb6 := below_drew (Below.refl w6.heap.size w6)
        have HNd := Aside0.mk (HN6.out.step hb6)
        have HXd := Aside0.mk (HX6.out.move hb6)
        have hkx : ¬ Only s kx ∧ ¬ Only h kx := by unfold Only; omega
        by_cases r0 : r = 0
        · subst r0
          go_wp2_with fail
          go_region_held3 (fun w' => w'.cell? ⟨kx, 1, none⟩ = some (.string nm) ∧ w'.cell? ⟨kx, 2, none⟩ = some (.string ky)) (first | (dsimp only; refine ⟨?_, ?_⟩ <;> assumption) | (simp [*]; done)) (first | (go_at_call 27; refine (put_walk _ (s + 1) s m HNd.out.au nm ky hnm).mono ?_; rintro e w7 ⟨rfl, hI7, hF7⟩; obtain ⟨d0, d1, d2, d3, d4, d5⟩ := (HXd.out.fr hF7 hkx.1).cells) | (go_at_call 34; refine (rput_walk (fun k => k = s ∨ k = h) _ h m (HNd.out.rk.fr hF7 (fun k hk => .inl hk) (by unfold Only; omega)) HN6.out.st (.inr rfl) (fun k hk => Nat.lt_of_lt_of_le (HNd.out.lts k hk) hF7.size) nm ky hnm).mono ?_; rintro e w8 ⟨rfl, hI8, hF8⟩; obtain ⟨x0, x1, x2, x3, x4, x5⟩ := ((HXd.out.fr hF7 hkx.1).fr hF8 hkx.2).cells))
          obtain ⟨m8, hm8⟩ : ∃ m8, (put m nm ky).1 = m8 := ⟨_, rfl⟩
          have HN8 : Aside0 (PL w w8 (s + 1) s h m8) := ⟨HNd.out.two (by rw [← hm8]; exact hI7) hF7 (by rw [← hm8]; exact hI8) hF8 (by rw [← hm8]; exact put_st HN6.out.st nm ky) (by omega) (by omega) hsw (by omega)⟩
          clear hI7 hF7 hI8 hF8 d0 d1 d2 d3 d4 d5 x0 x1 x2 x3 x4 x5 hm8

          go_wp2_with fail
          have hb8 := below_drew (Below.refl w8.heap.size w8)
          obtain ⟨A8, B8, ca8, cb8, hrk8⟩ := HN8.out.rk
          have k0 := (blk_cell hrk8.blk 0).trans (show _ = some (Value.slice A8 m8.length ca8) from rfl)
          have HR8 := Aside0.mk hrk8
          clear hrk8
          have HK : Aside0 (∀ W1, Below w8.heap.size w8 W1 → W1.cell? ⟨h, 0, none⟩ = some (Value.slice A8 m8.length ca8)) := ⟨fun W1 hb => (hb.cell (p := ⟨h, 0, none⟩) (blk_lt HR8.out.blk)).trans k0⟩
          go_region_held3 (fun w' => w'.cell? ⟨h, 0, none⟩ = some (Value.slice A8 m8.length ca8) ∧ Below w8.heap.size w8 w') (first | (dsimp only; refine ⟨?_, ?_⟩ <;> assumption) | (simp [*]; done)) (first | (go_at_call 39; refine (names_walk' _ (s + 1) s m8 (HN8.out.au.below (by assumption)) HN8.out.st).mono ?_; rintro e W1 ⟨A9, c9, rfl, hA9, hB⟩; have hb' : Below w8.heap.size w8 W1 := below_step (by assumption) hB; have k1 := HK.out W1 hb') | (go_at_call 38; refine (same_walk' _ (fun _ => False) (fun k => k = s ∨ k = h) A9 A8 (nmB m8) m8.length _ _ (nmB_len m8) (by assumption) (HR8.out.nm.fr (Fr.of_below (by assumption)))).mono ?_; rintro e W2 ⟨rfl, hB2⟩; have hb2' : Below w8.heap.size w8 W2 := below_step (by assumption) hB2; have k2 := HK.out W2 hb2'))
          have HN9 := Aside0.mk (HN8.out.step hb2')
          clear hb2' hB2 k0 k1 k2 hb' hB hA9 hb8 HK HR8
          go_wp2_with fail
          go_roundg kq1
          case measure => have := HI.out; omega
          case rel => exact ⟨i + 1, m8, by go_num, ⟨by have := HI.out; have := HQ.out; omega, by have := HQ.out; omega⟩, HN9⟩
        · by_cases r1 : r = 1
          · subst r1
            go_wp2_with fail
            go_region_held3 (fun w' => w'.cell? ⟨kx, 1, none⟩ = some (.string nm)) (first | assumption | (simp [*]; done)) (first | (go_at_call 31; refine (take_walk _ (s + 1) s m HNd.out.au nm hnm).mono ?_; rintro e w7 ⟨rfl, hI7, hF7⟩; obtain ⟨d0, d1, d2, d3, d4, d5⟩ := (HXd.out.fr hF7 hkx.1).cells) | (go_at_call 35; refine (rtake_walk (fun k => k = s ∨ k = h) _ h m (HNd.out.rk.fr hF7 (fun k hk => .inl hk) (by unfold Only; omega)) HN6.out.st (.inr rfl) (fun k hk => Nat.lt_of_lt_of_le (HNd.out.lts k hk) hF7.size) nm).mono ?_; rintro e w8 ⟨rfl, hI8, hF8⟩; obtain ⟨x0, x1, x2, x3, x4, x5⟩ := ((HXd.out.fr hF7 hkx.1).fr hF8 hkx.2).cells))
            obtain ⟨m8, hm8⟩ : ∃ m8, (take m nm).1 = m8 := ⟨_, rfl⟩
            have HN8 : Aside0 (PL w w8 (s + 1) s h m8) := ⟨HNd.out.two (by rw [← hm8]; exact hI7) hF7 (by rw [← hm8]; exact hI8) hF8 (by rw [← hm8]; exact take_st HN6.out.st nm) (by omega) (by omega) hsw (by omega)⟩
            clear hI7 hF7 hI8 hF8 d0 d1 d2 d3 d4 d5 x0 x1 x2 x3 x4 x5 hm8

            go_wp2_with fail
            have hb8 := below_drew (Below.refl w8.heap.size w8)
            obtain ⟨A8, B8, ca8, cb8, hrk8⟩ := HN8.out.rk
            have k0 := (blk_cell hrk8.blk 0).trans (show _ = some (Value.slice A8 m8.length ca8) from rfl)
            have HR8 := Aside0.mk hrk8
            clear hrk8
            have HK : Aside0 (∀ W1, Below w8.heap.size w8 W1 → W1.cell? ⟨h, 0, none⟩ = some (Value.slice A8 m8.length ca8)) := ⟨fun W1 hb => (hb.cell (p := ⟨h, 0, none⟩) (blk_lt HR8.out.blk)).trans k0⟩
            go_region_held3 (fun w' => w'.cell? ⟨h, 0, none⟩ = some (Value.slice A8 m8.length ca8) ∧ Below w8.heap.size w8 w') (first | (dsimp only; refine ⟨?_, ?_⟩ <;> assumption) | (simp [*]; done)) (first | (go_at_call 39; refine (names_walk' _ (s + 1) s m8 (HN8.out.au.below (by assumption)) HN8.out.st).mono ?_; rintro e W1 ⟨A9, c9, rfl, hA9, hB⟩; have hb' : Below w8.heap.size w8 W1 := below_step (by assumption) hB; have k1 := HK.out W1 hb') | (go_at_call 38; refine (same_walk' _ (fun _ => False) (fun k => k = s ∨ k = h) A9 A8 (nmB m8) m8.length _ _ (nmB_len m8) (by assumption) (HR8.out.nm.fr (Fr.of_below (by assumption)))).mono ?_; rintro e W2 ⟨rfl, hB2⟩; have hb2' : Below w8.heap.size w8 W2 := below_step (by assumption) hB2; have k2 := HK.out W2 hb2'))
            have HN9 := Aside0.mk (HN8.out.step hb2')
            clear hb2' hB2 k0 k1 k2 hb' hB hA9 hb8 HK HR8
            go_wp2_with fail
            go_roundg kq1
            case measure => have := HI.out; omega
            case rel => exact ⟨i + 1, m8, by go_num, ⟨by have := HI.out; have := HQ.out; omega, by have := HQ.out; omega⟩, HN9⟩
          · by_cases r2 : r = 2
            · subst r2
              go_wp2_with fail
              refine (proof_walk ky nm C _ (HL.out.step HN6.out.below h2) (Nat.le_trans h2 HN6.out.below.size) (by omega) (by omega) (by omega)).mono ?_
              obtain ⟨PP, hPP⟩ : ∃ PP, proofS ky nm C = PP := ⟨_, rfl⟩
              have sPP : PP.size = 32 := by rw [← hPP]; exact proofS_size _ _ _
              have HPP := Aside0.mk hPP
              rw [hPP]
              rintro e w7 ⟨rfl, hB7⟩
              have HN7 := Aside0.mk (HN6.out.step hB7)
              have HX7 := Aside0.mk (HX6.out.move hB7)
              clear hB7 hPP c0 c1 c2 c3 c4 c5 hb6 HNd HXd
              obtain ⟨c0, c1, c2, c3, c4, c5⟩ := HX7.out.cells
              have HXC : Aside0 (∀ W1, Below w7.heap.size w7 W1 → XC W1 kx kd nm ky tx dr nb) := ⟨fun W1 hb => (HX7.out.move hb).cells⟩
              have HLC : Aside0 (∀ W1, Below w7.heap.size w7 W1 → Laid W1 ∧ 2 ≤ W1.heap.size) := ⟨fun W1 hb => ⟨HL.out.step (below_step HN7.out.below hb) h2, Nat.le_trans h2 (below_step HN7.out.below hb).size⟩⟩
              have hb7 := below_drew (Below.refl w7.heap.size w7)
              go_wp2_with fail
              go_region_held3 (fun w' => w'.cell? ⟨kx, 1, none⟩ = some (.string nm) ∧ w'.cell? ⟨kx, 2, none⟩ = some (.string ky) ∧ Below w7.heap.size w7 w') (first | (dsimp only; refine ⟨?_, ?_, ?_⟩ <;> assumption) | (simp [*]; done)) (first | (go_at_call 36; refine (rproof_walk ky nm C _ (by omega) (by omega) (by omega)).mono ?_; rw [HPP.out]; rintro e u1 ⟨rfl, hB⟩; have hb1 : Below w7.heap.size w7 u1 := below_step (by assumption) hB; obtain ⟨d0, d1, d2, d3, d4, d5⟩ := HXC.out u1 hb1) | (go_at_call 30; refine (check_walk _ (s + 1) s m (HN7.out.au.below (by assumption)) (HLC.out _ (by assumption)).1 (HLC.out _ (by assumption)).2 nm C PP (by omega) (by omega) (by omega)).mono ?_; rintro e u2 ⟨rfl, hB⟩; have hb2 : Below w7.heap.size w7 u2 := below_step hb1 hB; obtain ⟨e0, e1, e2, e3, e4, e5⟩ := HXC.out u2 hb2) | (go_at_call 37; refine (rcheck_walk (fun k => k = s ∨ k = h) _ h m (HN7.out.rk.below hb2) HN7.out.st HN7.out.au.fine nm C PP (by omega) (by omega)).mono ?_; rintro e w8 ⟨rfl, hB⟩; have hb3 : Below w7.heap.size w7 w8 := below_step hb2 hB; obtain ⟨x0, x1, x2, x3, x4, x5⟩ := HXC.out w8 hb3))
              obtain ⟨m8, rfl⟩ : ∃ m8, m8 = m := ⟨_, rfl⟩
              have HN8 := Aside0.mk (HN7.out.step hb3)
              clear hb1 hb2 hb3 hb7 HXC HLC d0 d1 d2 d3 d4 d5 e0 e1 e2 e3 e4 e5 x0 x1 x2 x3 x4 x5

              go_wp2_with fail
              have hb8 := below_drew (Below.refl w8.heap.size w8)
              obtain ⟨A8, B8, ca8, cb8, hrk8⟩ := HN8.out.rk
              have k0 := (blk_cell hrk8.blk 0).trans (show _ = some (Value.slice A8 m8.length ca8) from rfl)
              have HR8 := Aside0.mk hrk8
              clear hrk8
              have HK : Aside0 (∀ W1, Below w8.heap.size w8 W1 → W1.cell? ⟨h, 0, none⟩ = some (Value.slice A8 m8.length ca8)) := ⟨fun W1 hb => (hb.cell (p := ⟨h, 0, none⟩) (blk_lt HR8.out.blk)).trans k0⟩
              go_region_held3 (fun w' => w'.cell? ⟨h, 0, none⟩ = some (Value.slice A8 m8.length ca8) ∧ Below w8.heap.size w8 w') (first | (dsimp only; refine ⟨?_, ?_⟩ <;> assumption) | (simp [*]; done)) (first | (go_at_call 39; refine (names_walk' _ (s + 1) s m8 (HN8.out.au.below (by assumption)) HN8.out.st).mono ?_; rintro e W1 ⟨A9, c9, rfl, hA9, hB⟩; have hb' : Below w8.heap.size w8 W1 := below_step (by assumption) hB; have k1 := HK.out W1 hb') | (go_at_call 38; refine (same_walk' _ (fun _ => False) (fun k => k = s ∨ k = h) A9 A8 (nmB m8) m8.length _ _ (nmB_len m8) (by assumption) (HR8.out.nm.fr (Fr.of_below (by assumption)))).mono ?_; rintro e W2 ⟨rfl, hB2⟩; have hb2' : Below w8.heap.size w8 W2 := below_step (by assumption) hB2; have k2 := HK.out W2 hb2'))
              have HN9 := Aside0.mk (HN8.out.step hb2')
              clear hb2' hB2 k0 k1 k2 hb' hB hA9 hb8 HK HR8
              go_wp2_with fail
              go_roundg kq1
              case measure => have := HI.out; omega
              case rel => exact ⟨i + 1, m8, by go_num, ⟨by have := HI.out; have := HQ.out; omega, by have := HQ.out; omega⟩, HN9⟩
            · have z0 : (r == 0) = false := by simpa using r0
              have z1 : (r == 1) = false := by simpa using r1
              have z2 : (r == 2) = false := by simpa using r2
              clear r0 r1 r2
              have HXC : Aside0 (∀ W1, Below w6.heap.size w6 W1 → XC W1 kx kd nm ky tx dr nb) := ⟨fun W1 hb => (HX6.out.move hb).cells⟩
              have HLC : Aside0 (∀ W1, Below w6.heap.size w6 W1 → Laid W1 ∧ 2 ≤ W1.heap.size) := ⟨fun W1 hb => ⟨HL.out.step (below_step HN6.out.below hb) h2, Nat.le_trans h2 (below_step HN6.out.below hb).size⟩⟩
              go_wp2_with fail
              go_region_held3 (fun w' => w'.cell? ⟨kx, 1, none⟩ = some (.string nm) ∧ w'.cell? ⟨kx, 3, none⟩ = some (.string tx) ∧ Below w6.heap.size w6 w') (first | (dsimp only; refine ⟨?_, ?_, ?_⟩ <;> assumption) | (simp [*]; done)) (first | (go_at_call 30; refine (check_walk _ (s + 1) s m (HN6.out.au.below (by assumption)) (HLC.out _ (by assumption)).1 (HLC.out _ (by assumption)).2 nm C tx (by omega) (by omega) (by omega)).mono ?_; rintro e u2 ⟨rfl, hB⟩; have hb2 : Below w6.heap.size w6 u2 := below_step (by assumption) hB; obtain ⟨e0, e1, e2, e3, e4, e5⟩ := HXC.out u2 hb2) | (go_at_call 37; refine (rcheck_walk (fun k => k = s ∨ k = h) _ h m (HN6.out.rk.below hb2) HN6.out.st HN6.out.au.fine nm C tx (by omega) (by omega)).mono ?_; rintro e w8 ⟨rfl, hB⟩; have hb3 : Below w6.heap.size w6 w8 := below_step hb2 hB; obtain ⟨x0, x1, x2, x3, x4, x5⟩ := HXC.out w8 hb3))
              obtain ⟨m8, rfl⟩ : ∃ m8, m8 = m := ⟨_, rfl⟩
              have HN8 := Aside0.mk (HN6.out.step hb3)
              clear hb2 hb3 hb6 HXC HLC e0 e1 e2 e3 e4 e5 x0 x1 x2 x3 x4 x5

              go_wp2_with fail
              have hb8 := below_drew (Below.refl w8.heap.size w8)
              obtain ⟨A8, B8, ca8, cb8, hrk8⟩ := HN8.out.rk
              have k0 := (blk_cell hrk8.blk 0).trans (show _ = some (Value.slice A8 m8.length ca8) from rfl)
              have HR8 := Aside0.mk hrk8
              clear hrk8
              have HK : Aside0 (∀ W1, Below w8.heap.size w8 W1 → W1.cell? ⟨h, 0, none⟩ = some (Value.slice A8 m8.length ca8)) := ⟨fun W1 hb => (hb.cell (p := ⟨h, 0, none⟩) (blk_lt HR8.out.blk)).trans k0⟩
              go_region_held3 (fun w' => w'.cell? ⟨h, 0, none⟩ = some (Value.slice A8 m8.length ca8) ∧ Below w8.heap.size w8 w') (first | (dsimp only; refine ⟨?_, ?_⟩ <;> assumption) | (simp [*]; done)) (first | (go_at_call 39; refine (names_walk' _ (s + 1) s m8 (HN8.out.au.below (by assumption)) HN8.out.st).mono ?_; rintro e W1 ⟨A9, c9, rfl, hA9, hB⟩; have hb' : Below w8.heap.size w8 W1 := below_step (by assumption) hB; have k1 := HK.out W1 hb') | (go_at_call 38; refine (same_walk' _ (fun _ => False) (fun k => k = s ∨ k = h) A9 A8 (nmB m8) m8.length _ _ (nmB_len m8) (by assumption) (HR8.out.nm.fr (Fr.of_below (by assumption)))).mono ?_; rintro e W2 ⟨rfl, hB2⟩; have hb2' : Below w8.heap.size w8 W2 := below_step (by assumption) hB2; have k2 := HK.out W2 hb2'))
              have HN9 := Aside0.mk (HN8.out.step hb2')
              clear hb2' hB2 k0 k1 k2 hb' hB hA9 hb8 HK HR8
              go_wp2_with fail
              go_roundg kq1
              case measure => have := HI.out; omega
              case rel => exact ⟨i + 1, m8, by go_num, ⟨by have := HI.out; have := HQ.out; omega, by have := HQ.out; omega⟩, HN9⟩
    · have hex : ¬ i < acts.length ∨ (i < acts.length ∧ ¬ i < 60) := by omega
      rcases hex with q1 | ⟨q1, q2⟩
      · have q1' : ¬ (i : Int) < (acts.length : Int) := by omega
        go_wp2_with fail
        refine (works_walk _ (HL.out.step HN.out.below h2) (Nat.le_trans h2 HN.out.below.size)).mono ?_
        rintro e w4 ⟨rfl, hB4⟩
        have HB4 := Aside0.mk (below_step HN.out.below hB4)
        clear hB4
        go_wp2
        go_ret
        exact ⟨rfl, HB4.out⟩
      · have q1' : (i : Int) < (acts.length : Int) := by omega
        have q2' : ¬ (i : Int) < 60 := by omega
        go_wp2_with fail
        refine (works_walk _ (HL.out.step HN.out.below h2) (Nat.le_trans h2 HN.out.below.size)).mono ?_
        rintro e w4 ⟨rfl, hB4⟩
        have HB4 := Aside0.mk (below_step HN.out.below hB4)
        clear hB4
        go_wp2
        go_ret
        exact ⟨rfl, HB4.out⟩
end Go.Proofs.YtdnmllodefbekaaDoor.Au
end
