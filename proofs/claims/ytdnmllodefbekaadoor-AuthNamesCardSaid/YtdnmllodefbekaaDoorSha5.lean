import Derived.Test.YtdnmllodefbekaaDoorSha4
import Derived.Deep.DeepCutAuto
namespace Go.Proofs.YtdnmllodefbekaaDoor.Sha
open Go.RowKit Go.Lib Go.Proofs.YtdnmllodefbekaaDoorW.PrintWords Go.Proofs.YtdnmllodefbekaaDoorW.PrintLast Go.Proofs.YtdnmllodefbekaaDoorW.PrintMore
set_option linter.unusedVariables false
set_option linter.unusedSimpArgs false
theorem new_walk (w0 w : World) (hL : Laid w) (hB : Below w0.heap.size w0 w) :
    Calls Tryd.prog 17 #[] w fun e w' => e = .returned (.pointer (some ⟨w.heap.size, 0, none⟩)) ∧ IsH w0 w' w.heap.size (.slice none 0 0) HS [] 0 ∧ Below w.heap.size w w' := by
  have b0 := hL.b 0 (by decide)
  have b1 := hL.b 1 (by decide)
  have b2 := hL.b 2 (by decide)
  have b3 := hL.b 3 (by decide)
  have b4 := hL.b 4 (by decide)
  have b5 := hL.b 5 (by decide)
  have b6 := hL.b 6 (by decide)
  have b7 := hL.b 7 (by decide)
  simp only [HS, rd, Int.toNat_natCast, List.getD_cons_zero, List.getD_cons_succ] at b0 b1 b2 b3 b4 b5 b6 b7
  have hs := hB.size
  clear hL
  go_enter Tryd.func17, Tryd.ntmps17
  go_wp2
  go_ret
  exact ⟨rfl, ⟨hs, rfl, heap_alloc_new w _, q_of_own (World.ownsRow_nil _ _ _ _)⟩, below_alloc (Below.refl _ _) _⟩
theorem reads_all {w : World} {base c : Nat} {A : Option Addr} {xs : List Int} (h : QRow w base 5 1 (.slice A xs.length c) xs.length (nums .u8 xs)) : Kd.C (Kd.int .u8) w A xs.length xs := by
  refine Kd.C_of_reads (enc := Value.int .u8) (d := 0) (h1 := fun _ => rfl) ⟨rfl, q_max h, fun hn => ?_⟩
  obtain ⟨ad, rfl, hc⟩ := q_cells h hn
  refine ⟨ad, rfl, fun j hj => hc j _ ?_⟩
  simp [nums, List.getD_eq_getElem?_getD, hj]
theorem empty_own (W : World) (base : Nat) (hb : base ≤ W.heap.size) : Kd.R (Kd.int .u8) 5 (W.alloc (.cells #[] 5)) base (fun _ => True) (.slice (some ⟨W.heap.size, 0, none⟩) 0 0) [] :=
  Kd.R_of_own ⟨rfl, .inr ⟨W.heap.size, 0, #[], rfl, hb, heap_alloc_new W _, Nat.le_refl _, by decide, rfl, rfl⟩⟩ fun _ _ => trivial
theorem grown_cells {W w1 : World} {row : Option Nat} (h : W.grownBy w1 row) : ∀ b o, b < W.heap.size → some b ≠ row → w1.cell? ⟨b, o, none⟩ = W.cell? ⟨b, o, none⟩ := fun b o hb hn => World.cell?_of_block (h.block b hb hn)
theorem grown_frozen {W w1 : World} {row : Option Nat} (h : W.grownBy w1 row) : ∀ b o, b < W.heap.size → some b ≠ row → w1.frozen? ⟨b, o, none⟩ = W.frozen? ⟨b, o, none⟩ := fun b o hb hn => World.frozen?_of_block (h.block b hb hn)
theorem end_facts {W w1 : World} {row : Option Nat} {e : Nat} (hg : W.grownBy w1 row) (he : W.heap[e]? = some (.cells #[.int .u32 0, .int .u32 0, .int .u32 0, .int .u32 0, .int .u32 0, .int .u32 0, .int .u32 0, .int .u32 0, .slice none 0 0, .int .u64 0] 73 (0, 0))) (hne : some e ≠ row) : w1.heap[e]? = some (.cells #[.int .u32 0, .int .u32 0, .int .u32 0, .int .u32 0, .int .u32 0, .int .u32 0, .int .u32 0, .int .u32 0, .slice none 0 0, .int .u64 0] 73 (0, 0)) ∧ w1.cell? ⟨e, 0, none⟩ = some (.int .u32 0) ∧ w1.frozen? ⟨e, 0, none⟩ = false ∧ w1.cell? ⟨e, 1, none⟩ = some (.int .u32 0) ∧ w1.frozen? ⟨e, 1, none⟩ = false ∧ w1.cell? ⟨e, 2, none⟩ = some (.int .u32 0) ∧ w1.frozen? ⟨e, 2, none⟩ = false ∧ w1.cell? ⟨e, 3, none⟩ = some (.int .u32 0) ∧ w1.frozen? ⟨e, 3, none⟩ = false ∧ w1.cell? ⟨e, 4, none⟩ = some (.int .u32 0) ∧ w1.frozen? ⟨e, 4, none⟩ = false ∧ w1.cell? ⟨e, 5, none⟩ = some (.int .u32 0) ∧ w1.frozen? ⟨e, 5, none⟩ = false ∧ w1.cell? ⟨e, 6, none⟩ = some (.int .u32 0) ∧ w1.frozen? ⟨e, 6, none⟩ = false ∧ w1.cell? ⟨e, 7, none⟩ = some (.int .u32 0) ∧ w1.frozen? ⟨e, 7, none⟩ = false ∧ w1.cell? ⟨e, 8, none⟩ = some (.slice none 0 0) ∧ w1.frozen? ⟨e, 8, none⟩ = false ∧ w1.cell? ⟨e, 9, none⟩ = some (.int .u64 0) ∧ w1.frozen? ⟨e, 9, none⟩ = false := by
  have h := (hg.block e (blk_lt he) hne).trans he
  exact ⟨h, blk_cell h 0, blk_frozen h 0, blk_cell h 1, blk_frozen h 1, blk_cell h 2, blk_frozen h 2, blk_cell h 3, blk_frozen h 3, blk_cell h 4, blk_frozen h 4, blk_cell h 5, blk_frozen h 5, blk_cell h 6, blk_frozen h 6, blk_cell h 7, blk_frozen h 7, blk_cell h 8, blk_frozen h 8, blk_cell h 9, blk_frozen h 9⟩
theorem heap_alloc_old_ (w : World) (o o2 : Obj) : ((w.alloc o).alloc o2).drew.heap[w.heap.size]? = some o := (Below.heap_alloc (w.alloc o) o2 w.heap.size (by simp)).trans (heap_alloc_new w o)
theorem cell_keep_far {W : World} {e j g o : Nat} {v u : Value} (hne : g ≠ e) (h : W.cell? ⟨g, o, none⟩ = some u) : (W.setCell ⟨e, j, none⟩ v).cell? ⟨g, o, none⟩ = some u := (World.cell?_setCell_far W _ _ v (fun h_ => hne h_.symm)).trans h
theorem cell_keep_alloc {W : World} {g o : Nat} {O : Obj} {u : Value} (h : W.cell? ⟨g, o, none⟩ = some u) : (W.alloc O).cell? ⟨g, o, none⟩ = some u := cell?_alloc_some O h
theorem cell_keep_drew {W : World} {g o : Nat} {u : Value} (h : W.cell? ⟨g, o, none⟩ = some u) : W.drew.cell? ⟨g, o, none⟩ = some u := h
theorem heap_two (w : World) (o o2 : Obj) : ((w.alloc o).alloc o2).drew.heap[w.heap.size + 1]? = some o2 := by
  have h := heap_alloc_new (w.alloc o) o2
  rw [show (w.alloc o).heap.size = w.heap.size + 1 by simp] at h
  exact h
theorem below_two (w : World) (o : Obj) : Below w.heap.size w (w.drew.alloc o) := below_alloc (pw_below_drewN (Below.refl _ _) 1) o
/-- A word's four bytes, the highest first; a count's eight; a state's; what is put behind the bytes; the digest. -/
def wordB (x : Int) : List Int := [x / 16777216 % 256, x / 65536 % 256, x / 256 % 256, x % 256]
def lenB (L : Int) : List Int := [L / 72057594037927936 % 256, L / 281474976710656 % 256, L / 1099511627776 % 256, L / 4294967296 % 256, L / 16777216 % 256, L / 65536 % 256, L / 256 % 256, L % 256]
def outL : List Int → List Int
  | [] => []
  | x :: l => wordB x ++ outL l
def zs (rl : Nat) : Nat := (119 - rl) % 64
def padS (rl : Nat) (lg : Int) : List Int := (128 :: List.replicate (zs rl) 0) ++ lenB (IntKind.u64.wrap (8 * lg))
def sumL (st rest : List Int) (lg : Int) : List Int := outL (absorb ((rest ++ padS rest.length lg).length + 1) st (rest ++ padS rest.length lg)).1
theorem pad_kept {w0 W W1 : World} {e : Nat} {rv v : Value} {st rest xs : List Int} {lg : Int} {base : Nat} (h : IsH w0 W e rv st rest lg) (hR : Kd.R (Kd.int .u8) 5 W base (fun k => some k ≠ rv.ownBlock) v xs) (hg : W.grownBy W1 v.ownBlock) : IsH w0 W1 e rv st rest lg := by
  refine ⟨h.ge, h.len, (hg.block e (blk_lt h.blk) fun he => ?_).trans h.blk, q_move h.row fun k hk => hg.block k (q_lt h.row k hk) fun he => hR.1 k he.symm hk.symm⟩
  obtain ⟨c', hc'⟩ := own_typed (Kd.own_of_R hR) e he.symm
  rw [h.blk] at hc'; injection hc' with hc'; injection hc' with _ hc'; exact absurd hc' (by decide)
theorem q_fresh {w0 W : World} {e : Nat} {rv : Value} {st rest : List Int} {lg : Int} (h : IsH w0 W e rv st rest lg) : ∀ k, W.heap.size ≤ k → some k ≠ rv.ownBlock := fun k hk he => by
  have := q_lt h.row k he.symm
  omega
theorem one_own (W : World) (base : Nat) (hb : base ≤ W.heap.size) (x : Int) (ok : Nat → Prop) (hok : ok W.heap.size) : Kd.R (Kd.int .u8) 5 (W.alloc (.cells #[.int .u8 x] 5)) base ok (.slice (some ⟨W.heap.size, 0, none⟩) 1 1) [x] :=
  Kd.R_of_own ⟨rfl, .inr ⟨W.heap.size, 1, #[.int .u8 x], rfl, hb, heap_alloc_new W _, Nat.le_refl _, by decide, rfl, rfl⟩⟩ fun k hk => by
    have : W.heap.size = k := by simpa [Value.ownBlock] using hk
    rw [← this]; exact hok
theorem strOfNums_size' (xs : List Int) : (strOfNums xs).size = xs.length := by simp [strOfNums, ByteArray.size]
theorem bytesOf_strOfNums (xs : List Int) (h : ∀ x ∈ xs, 0 ≤ x ∧ x < 256) : bytesOf (strOfNums xs) = xs := by
  unfold strOfNums bytesOf
  simp only [List.map_map]
  conv => rhs; rw [← List.map_id xs]
  refine List.map_congr_left fun x hx => ?_
  have := h x hx
  simp only [Function.comp_def, id]
  first | (simp [UInt8.toNat_ofNat]; omega) | (simp; omega)
theorem padS_byte (rl : Nat) (lg : Int) : ∀ x ∈ padS rl lg, 0 ≤ x ∧ x < 256 := fun x hx => by
  unfold padS at hx
  rcases List.mem_append.1 hx with h | h
  · rcases List.mem_cons.1 h with rfl | h
    · omega
    · have := List.eq_of_mem_replicate h
      omega
  · simp only [lenB, List.mem_cons, List.not_mem_nil, or_false] at h
    rcases h with rfl | rfl | rfl | rfl | rfl | rfl | rfl | rfl <;> omega
theorem outL_len (l : List Int) : (outL l).length = 4 * l.length := by
  induction l with
  | nil => rfl
  | cons x l ih => simp only [outL, List.length_append, ih, List.length_cons]; simp [wordB]; omega
theorem four_reads (W : World) (a b c d : Int) : Kd.C (Kd.int .u8) (W.alloc (.cells #[.int .u8 a, .int .u8 b, .int .u8 c, .int .u8 d] 5)) (some ⟨W.heap.size, 0, none⟩) 4 [a, b, c, d] := by
  refine Kd.C_of_reads (enc := Value.int .u8) (d := 0) (h1 := fun _ => rfl) ⟨rfl, by decide, fun _ => ⟨_, rfl, fun j hj => ?_⟩⟩
  rw [add_plain, blk_cell (heap_alloc_new W (.cells #[.int .u8 a, .int .u8 b, .int .u8 c, .int .u8 d] 5)) j]
  rcases j with _ | _ | _ | _ | j
  · rfl
  · rfl
  · rfl
  · rfl
  · omega
theorem info66 : (Tryd.prog.info? 66).map (fun i => (i.zero, i.size, i.bytes)) = some (some (.int .u32 0), 1, 4) := by kernel_rfl
theorem idx0 (y0 y1 y2 y3 y4 y5 y6 y7 : Int) (W : World) : (Instr.index 71 (.agg #[.int .u32 y0, .int .u32 y1, .int .u32 y2, .int .u32 y3, .int .u32 y4, .int .u32 y5, .int .u32 y6, .int .u32 y7]) (.int .i64 0)).run Tryd.prog W = .ok (.int .u32 y0) W := by
  obtain ⟨i0, hi, hzz⟩ := Option.map_eq_some_iff.1 info66
  simp only [Prod.mk.injEq] at hzz
  have hu := Tryd.underlying66
  simp [Instr.index, run_underlying Tryd.underlying71, sizeOf, typeInfo, hi, hzz.2.1, asIntOf, part, run_underlying hu, Result.andThen]
theorem idx1 (y0 y1 y2 y3 y4 y5 y6 y7 : Int) (W : World) : (Instr.index 71 (.agg #[.int .u32 y0, .int .u32 y1, .int .u32 y2, .int .u32 y3, .int .u32 y4, .int .u32 y5, .int .u32 y6, .int .u32 y7]) (.int .i64 1)).run Tryd.prog W = .ok (.int .u32 y1) W := by
  obtain ⟨i0, hi, hzz⟩ := Option.map_eq_some_iff.1 info66
  simp only [Prod.mk.injEq] at hzz
  have hu := Tryd.underlying66
  simp [Instr.index, run_underlying Tryd.underlying71, sizeOf, typeInfo, hi, hzz.2.1, asIntOf, part, run_underlying hu, Result.andThen]
theorem idx2 (y0 y1 y2 y3 y4 y5 y6 y7 : Int) (W : World) : (Instr.index 71 (.agg #[.int .u32 y0, .int .u32 y1, .int .u32 y2, .int .u32 y3, .int .u32 y4, .int .u32 y5, .int .u32 y6, .int .u32 y7]) (.int .i64 2)).run Tryd.prog W = .ok (.int .u32 y2) W := by
  obtain ⟨i0, hi, hzz⟩ := Option.map_eq_some_iff.1 info66
  simp only [Prod.mk.injEq] at hzz
  have hu := Tryd.underlying66
  simp [Instr.index, run_underlying Tryd.underlying71, sizeOf, typeInfo, hi, hzz.2.1, asIntOf, part, run_underlying hu, Result.andThen]
theorem idx3 (y0 y1 y2 y3 y4 y5 y6 y7 : Int) (W : World) : (Instr.index 71 (.agg #[.int .u32 y0, .int .u32 y1, .int .u32 y2, .int .u32 y3, .int .u32 y4, .int .u32 y5, .int .u32 y6, .int .u32 y7]) (.int .i64 3)).run Tryd.prog W = .ok (.int .u32 y3) W := by
  obtain ⟨i0, hi, hzz⟩ := Option.map_eq_some_iff.1 info66
  simp only [Prod.mk.injEq] at hzz
  have hu := Tryd.underlying66
  simp [Instr.index, run_underlying Tryd.underlying71, sizeOf, typeInfo, hi, hzz.2.1, asIntOf, part, run_underlying hu, Result.andThen]
theorem idx4 (y0 y1 y2 y3 y4 y5 y6 y7 : Int) (W : World) : (Instr.index 71 (.agg #[.int .u32 y0, .int .u32 y1, .int .u32 y2, .int .u32 y3, .int .u32 y4, .int .u32 y5, .int .u32 y6, .int .u32 y7]) (.int .i64 4)).run Tryd.prog W = .ok (.int .u32 y4) W := by
  obtain ⟨i0, hi, hzz⟩ := Option.map_eq_some_iff.1 info66
  simp only [Prod.mk.injEq] at hzz
  have hu := Tryd.underlying66
  simp [Instr.index, run_underlying Tryd.underlying71, sizeOf, typeInfo, hi, hzz.2.1, asIntOf, part, run_underlying hu, Result.andThen]
theorem idx5 (y0 y1 y2 y3 y4 y5 y6 y7 : Int) (W : World) : (Instr.index 71 (.agg #[.int .u32 y0, .int .u32 y1, .int .u32 y2, .int .u32 y3, .int .u32 y4, .int .u32 y5, .int .u32 y6, .int .u32 y7]) (.int .i64 5)).run Tryd.prog W = .ok (.int .u32 y5) W := by
  obtain ⟨i0, hi, hzz⟩ := Option.map_eq_some_iff.1 info66
  simp only [Prod.mk.injEq] at hzz
  have hu := Tryd.underlying66
  simp [Instr.index, run_underlying Tryd.underlying71, sizeOf, typeInfo, hi, hzz.2.1, asIntOf, part, run_underlying hu, Result.andThen]
theorem idx6 (y0 y1 y2 y3 y4 y5 y6 y7 : Int) (W : World) : (Instr.index 71 (.agg #[.int .u32 y0, .int .u32 y1, .int .u32 y2, .int .u32 y3, .int .u32 y4, .int .u32 y5, .int .u32 y6, .int .u32 y7]) (.int .i64 6)).run Tryd.prog W = .ok (.int .u32 y6) W := by
  obtain ⟨i0, hi, hzz⟩ := Option.map_eq_some_iff.1 info66
  simp only [Prod.mk.injEq] at hzz
  have hu := Tryd.underlying66
  simp [Instr.index, run_underlying Tryd.underlying71, sizeOf, typeInfo, hi, hzz.2.1, asIntOf, part, run_underlying hu, Result.andThen]
theorem idx7 (y0 y1 y2 y3 y4 y5 y6 y7 : Int) (W : World) : (Instr.index 71 (.agg #[.int .u32 y0, .int .u32 y1, .int .u32 y2, .int .u32 y3, .int .u32 y4, .int .u32 y5, .int .u32 y6, .int .u32 y7]) (.int .i64 7)).run Tryd.prog W = .ok (.int .u32 y7) W := by
  obtain ⟨i0, hi, hzz⟩ := Option.map_eq_some_iff.1 info66
  simp only [Prod.mk.injEq] at hzz
  have hu := Tryd.underlying66
  simp [Instr.index, run_underlying Tryd.underlying71, sizeOf, typeInfo, hi, hzz.2.1, asIntOf, part, run_underlying hu, Result.andThen]
attribute [local go_sem] idx0 idx1 idx2 idx3 idx4 idx5 idx6 idx7
theorem snoc_rep (j : Nat) : (128 :: List.replicate j (0 : Int)) ++ [0] = 128 :: List.replicate (j + 1) 0 := by
  rw [List.cons_append, List.replicate_succ']
theorem own_q {W : World} {base : Nat} {v : Value} {xs : List Int} {ok : Nat → Prop} (h : Kd.R (Kd.int .u8) 5 W base ok v xs) : QRow W base 5 1 v xs.length (nums .u8 xs) := by
  have := q_of_own (Kd.own_of_R h)
  simpa [nums, encs] using this
theorem first_a {w9 w1 : World} {A1 : Option Addr} {c1 : Nat} {rest : List Int} (s0 s1 s2 s3 s4 s5 s6 s7 : Int) (hb1 : Below w9.heap.size w9 w1) (hr1 : Kd.R (Kd.int .u8) 5 w1 w9.heap.size (fun _ => True) (.slice A1 rest.length c1) rest) :
    IsH w9 (w1.alloc (.cells #[.int .u32 s0, .int .u32 s1, .int .u32 s2, .int .u32 s3, .int .u32 s4, .int .u32 s5, .int .u32 s6, .int .u32 s7, .slice A1 rest.length c1, .int .u64 0] 73)) w1.heap.size (.slice A1 rest.length c1) [s0, s1, s2, s3, s4, s5, s6, s7] rest 0 ∧ Below w9.heap.size w9 (w1.alloc (.cells #[.int .u32 s0, .int .u32 s1, .int .u32 s2, .int .u32 s3, .int .u32 s4, .int .u32 s5, .int .u32 s6, .int .u32 s7, .slice A1 rest.length c1, .int .u64 0] 73)) :=
  ⟨⟨hb1.size, rfl, heap_alloc_new w1 _, own_q (Kd.R_alloc hr1 _)⟩, below_alloc hb1 _⟩
theorem first_b {w9 w1 : World} {A1 : Option Addr} {c1 e : Nat} {rest : List Int} (s0 s1 s2 s3 s4 s5 s6 s7 : Int) (hb1 : Below w9.heap.size w9 w1) (he : w1.heap[e]? = some (.cells #[.int .u32 0, .int .u32 0, .int .u32 0, .int .u32 0, .int .u32 0, .int .u32 0, .int .u32 0, .int .u32 0, .slice none 0 0, .int .u64 0] 73 (0, 0))) (hge : w9.heap.size ≤ e) (hr1 : Kd.R (Kd.int .u8) 5 w1 w9.heap.size (fun _ => True) (.slice A1 rest.length c1) rest) :
    IsH w9 ((((((((((w1.setCell ⟨e, 0, none⟩ (.int .u32 s0)).setCell ⟨e, 1, none⟩ (.int .u32 s1)).setCell ⟨e, 2, none⟩ (.int .u32 s2)).setCell ⟨e, 3, none⟩ (.int .u32 s3)).setCell ⟨e, 4, none⟩ (.int .u32 s4)).setCell ⟨e, 5, none⟩ (.int .u32 s5)).setCell ⟨e, 6, none⟩ (.int .u32 s6)).setCell ⟨e, 7, none⟩ (.int .u32 s7)).setCell ⟨e, 8, none⟩ (.slice A1 rest.length c1)).setCell ⟨e, 9, none⟩ (.int .u64 0)) e (.slice A1 rest.length c1) [s0, s1, s2, s3, s4, s5, s6, s7] rest 0 ∧ Below w9.heap.size w9 ((((((((((w1.setCell ⟨e, 0, none⟩ (.int .u32 s0)).setCell ⟨e, 1, none⟩ (.int .u32 s1)).setCell ⟨e, 2, none⟩ (.int .u32 s2)).setCell ⟨e, 3, none⟩ (.int .u32 s3)).setCell ⟨e, 4, none⟩ (.int .u32 s4)).setCell ⟨e, 5, none⟩ (.int .u32 s5)).setCell ⟨e, 6, none⟩ (.int .u32 s6)).setCell ⟨e, 7, none⟩ (.int .u32 s7)).setCell ⟨e, 8, none⟩ (.slice A1 rest.length c1)).setCell ⟨e, 9, none⟩ (.int .u64 0)) := by
  have hq := own_q hr1
  have hne : ∀ k, (Value.slice A1 rest.length c1).ownBlock = some k → k ≠ e := fun k hk h_ => by
    obtain ⟨_, c, hc⟩ := q_typed hq k hk
    rw [h_, he] at hc; injection hc with hc; injection hc with _ hc; exact absurd hc (by decide)
  refine ⟨⟨hge, rfl, ?_, ?_⟩, ?_⟩
  · have h1 : (w1.setCell ⟨e, 0, none⟩ (.int .u32 s0)).heap[e]? = some (.cells #[.int .u32 s0, .int .u32 0, .int .u32 0, .int .u32 0, .int .u32 0, .int .u32 0, .int .u32 0, .int .u32 0, .slice none 0 0, .int .u64 0] 73 (0, 0)) := blk_put he 0 _ rfl
    have h2 : ((w1.setCell ⟨e, 0, none⟩ (.int .u32 s0)).setCell ⟨e, 1, none⟩ (.int .u32 s1)).heap[e]? = some (.cells #[.int .u32 s0, .int .u32 s1, .int .u32 0, .int .u32 0, .int .u32 0, .int .u32 0, .int .u32 0, .int .u32 0, .slice none 0 0, .int .u64 0] 73 (0, 0)) := blk_put h1 1 _ rfl
    have h3 : (((w1.setCell ⟨e, 0, none⟩ (.int .u32 s0)).setCell ⟨e, 1, none⟩ (.int .u32 s1)).setCell ⟨e, 2, none⟩ (.int .u32 s2)).heap[e]? = some (.cells #[.int .u32 s0, .int .u32 s1, .int .u32 s2, .int .u32 0, .int .u32 0, .int .u32 0, .int .u32 0, .int .u32 0, .slice none 0 0, .int .u64 0] 73 (0, 0)) := blk_put h2 2 _ rfl
    have h4 : ((((w1.setCell ⟨e, 0, none⟩ (.int .u32 s0)).setCell ⟨e, 1, none⟩ (.int .u32 s1)).setCell ⟨e, 2, none⟩ (.int .u32 s2)).setCell ⟨e, 3, none⟩ (.int .u32 s3)).heap[e]? = some (.cells #[.int .u32 s0, .int .u32 s1, .int .u32 s2, .int .u32 s3, .int .u32 0, .int .u32 0, .int .u32 0, .int .u32 0, .slice none 0 0, .int .u64 0] 73 (0, 0)) := blk_put h3 3 _ rfl
    have h5 : (((((w1.setCell ⟨e, 0, none⟩ (.int .u32 s0)).setCell ⟨e, 1, none⟩ (.int .u32 s1)).setCell ⟨e, 2, none⟩ (.int .u32 s2)).setCell ⟨e, 3, none⟩ (.int .u32 s3)).setCell ⟨e, 4, none⟩ (.int .u32 s4)).heap[e]? = some (.cells #[.int .u32 s0, .int .u32 s1, .int .u32 s2, .int .u32 s3, .int .u32 s4, .int .u32 0, .int .u32 0, .int .u32 0, .slice none 0 0, .int .u64 0] 73 (0, 0)) := blk_put h4 4 _ rfl
    have h6 : ((((((w1.setCell ⟨e, 0, none⟩ (.int .u32 s0)).setCell ⟨e, 1, none⟩ (.int .u32 s1)).setCell ⟨e, 2, none⟩ (.int .u32 s2)).setCell ⟨e, 3, none⟩ (.int .u32 s3)).setCell ⟨e, 4, none⟩ (.int .u32 s4)).setCell ⟨e, 5, none⟩ (.int .u32 s5)).heap[e]? = some (.cells #[.int .u32 s0, .int .u32 s1, .int .u32 s2, .int .u32 s3, .int .u32 s4, .int .u32 s5, .int .u32 0, .int .u32 0, .slice none 0 0, .int .u64 0] 73 (0, 0)) := blk_put h5 5 _ rfl
    have h7 : (((((((w1.setCell ⟨e, 0, none⟩ (.int .u32 s0)).setCell ⟨e, 1, none⟩ (.int .u32 s1)).setCell ⟨e, 2, none⟩ (.int .u32 s2)).setCell ⟨e, 3, none⟩ (.int .u32 s3)).setCell ⟨e, 4, none⟩ (.int .u32 s4)).setCell ⟨e, 5, none⟩ (.int .u32 s5)).setCell ⟨e, 6, none⟩ (.int .u32 s6)).heap[e]? = some (.cells #[.int .u32 s0, .int .u32 s1, .int .u32 s2, .int .u32 s3, .int .u32 s4, .int .u32 s5, .int .u32 s6, .int .u32 0, .slice none 0 0, .int .u64 0] 73 (0, 0)) := blk_put h6 6 _ rfl
    have h8 : ((((((((w1.setCell ⟨e, 0, none⟩ (.int .u32 s0)).setCell ⟨e, 1, none⟩ (.int .u32 s1)).setCell ⟨e, 2, none⟩ (.int .u32 s2)).setCell ⟨e, 3, none⟩ (.int .u32 s3)).setCell ⟨e, 4, none⟩ (.int .u32 s4)).setCell ⟨e, 5, none⟩ (.int .u32 s5)).setCell ⟨e, 6, none⟩ (.int .u32 s6)).setCell ⟨e, 7, none⟩ (.int .u32 s7)).heap[e]? = some (.cells #[.int .u32 s0, .int .u32 s1, .int .u32 s2, .int .u32 s3, .int .u32 s4, .int .u32 s5, .int .u32 s6, .int .u32 s7, .slice none 0 0, .int .u64 0] 73 (0, 0)) := blk_put h7 7 _ rfl
    have h9 : (((((((((w1.setCell ⟨e, 0, none⟩ (.int .u32 s0)).setCell ⟨e, 1, none⟩ (.int .u32 s1)).setCell ⟨e, 2, none⟩ (.int .u32 s2)).setCell ⟨e, 3, none⟩ (.int .u32 s3)).setCell ⟨e, 4, none⟩ (.int .u32 s4)).setCell ⟨e, 5, none⟩ (.int .u32 s5)).setCell ⟨e, 6, none⟩ (.int .u32 s6)).setCell ⟨e, 7, none⟩ (.int .u32 s7)).setCell ⟨e, 8, none⟩ (.slice A1 rest.length c1)).heap[e]? = some (.cells #[.int .u32 s0, .int .u32 s1, .int .u32 s2, .int .u32 s3, .int .u32 s4, .int .u32 s5, .int .u32 s6, .int .u32 s7, .slice A1 rest.length c1, .int .u64 0] 73 (0, 0)) := blk_put h8 8 _ rfl
    have h10 : ((((((((((w1.setCell ⟨e, 0, none⟩ (.int .u32 s0)).setCell ⟨e, 1, none⟩ (.int .u32 s1)).setCell ⟨e, 2, none⟩ (.int .u32 s2)).setCell ⟨e, 3, none⟩ (.int .u32 s3)).setCell ⟨e, 4, none⟩ (.int .u32 s4)).setCell ⟨e, 5, none⟩ (.int .u32 s5)).setCell ⟨e, 6, none⟩ (.int .u32 s6)).setCell ⟨e, 7, none⟩ (.int .u32 s7)).setCell ⟨e, 8, none⟩ (.slice A1 rest.length c1)).setCell ⟨e, 9, none⟩ (.int .u64 0)).heap[e]? = some (.cells #[.int .u32 s0, .int .u32 s1, .int .u32 s2, .int .u32 s3, .int .u32 s4, .int .u32 s5, .int .u32 s6, .int .u32 s7, .slice A1 rest.length c1, .int .u64 0] 73 (0, 0)) := blk_put h9 9 _ rfl
    exact h10
  · replace hq := q_move hq fun k hk => Below.heap_setCell w1 ⟨e, 0, none⟩ (.int .u32 s0) k (hne k hk)
    replace hq := q_move hq fun k hk => Below.heap_setCell (w1.setCell ⟨e, 0, none⟩ (.int .u32 s0)) ⟨e, 1, none⟩ (.int .u32 s1) k (hne k hk)
    replace hq := q_move hq fun k hk => Below.heap_setCell ((w1.setCell ⟨e, 0, none⟩ (.int .u32 s0)).setCell ⟨e, 1, none⟩ (.int .u32 s1)) ⟨e, 2, none⟩ (.int .u32 s2) k (hne k hk)
    replace hq := q_move hq fun k hk => Below.heap_setCell (((w1.setCell ⟨e, 0, none⟩ (.int .u32 s0)).setCell ⟨e, 1, none⟩ (.int .u32 s1)).setCell ⟨e, 2, none⟩ (.int .u32 s2)) ⟨e, 3, none⟩ (.int .u32 s3) k (hne k hk)
    replace hq := q_move hq fun k hk => Below.heap_setCell ((((w1.setCell ⟨e, 0, none⟩ (.int .u32 s0)).setCell ⟨e, 1, none⟩ (.int .u32 s1)).setCell ⟨e, 2, none⟩ (.int .u32 s2)).setCell ⟨e, 3, none⟩ (.int .u32 s3)) ⟨e, 4, none⟩ (.int .u32 s4) k (hne k hk)
    replace hq := q_move hq fun k hk => Below.heap_setCell (((((w1.setCell ⟨e, 0, none⟩ (.int .u32 s0)).setCell ⟨e, 1, none⟩ (.int .u32 s1)).setCell ⟨e, 2, none⟩ (.int .u32 s2)).setCell ⟨e, 3, none⟩ (.int .u32 s3)).setCell ⟨e, 4, none⟩ (.int .u32 s4)) ⟨e, 5, none⟩ (.int .u32 s5) k (hne k hk)
    replace hq := q_move hq fun k hk => Below.heap_setCell ((((((w1.setCell ⟨e, 0, none⟩ (.int .u32 s0)).setCell ⟨e, 1, none⟩ (.int .u32 s1)).setCell ⟨e, 2, none⟩ (.int .u32 s2)).setCell ⟨e, 3, none⟩ (.int .u32 s3)).setCell ⟨e, 4, none⟩ (.int .u32 s4)).setCell ⟨e, 5, none⟩ (.int .u32 s5)) ⟨e, 6, none⟩ (.int .u32 s6) k (hne k hk)
    replace hq := q_move hq fun k hk => Below.heap_setCell (((((((w1.setCell ⟨e, 0, none⟩ (.int .u32 s0)).setCell ⟨e, 1, none⟩ (.int .u32 s1)).setCell ⟨e, 2, none⟩ (.int .u32 s2)).setCell ⟨e, 3, none⟩ (.int .u32 s3)).setCell ⟨e, 4, none⟩ (.int .u32 s4)).setCell ⟨e, 5, none⟩ (.int .u32 s5)).setCell ⟨e, 6, none⟩ (.int .u32 s6)) ⟨e, 7, none⟩ (.int .u32 s7) k (hne k hk)
    replace hq := q_move hq fun k hk => Below.heap_setCell ((((((((w1.setCell ⟨e, 0, none⟩ (.int .u32 s0)).setCell ⟨e, 1, none⟩ (.int .u32 s1)).setCell ⟨e, 2, none⟩ (.int .u32 s2)).setCell ⟨e, 3, none⟩ (.int .u32 s3)).setCell ⟨e, 4, none⟩ (.int .u32 s4)).setCell ⟨e, 5, none⟩ (.int .u32 s5)).setCell ⟨e, 6, none⟩ (.int .u32 s6)).setCell ⟨e, 7, none⟩ (.int .u32 s7)) ⟨e, 8, none⟩ (.slice A1 rest.length c1) k (hne k hk)
    replace hq := q_move hq fun k hk => Below.heap_setCell (((((((((w1.setCell ⟨e, 0, none⟩ (.int .u32 s0)).setCell ⟨e, 1, none⟩ (.int .u32 s1)).setCell ⟨e, 2, none⟩ (.int .u32 s2)).setCell ⟨e, 3, none⟩ (.int .u32 s3)).setCell ⟨e, 4, none⟩ (.int .u32 s4)).setCell ⟨e, 5, none⟩ (.int .u32 s5)).setCell ⟨e, 6, none⟩ (.int .u32 s6)).setCell ⟨e, 7, none⟩ (.int .u32 s7)).setCell ⟨e, 8, none⟩ (.slice A1 rest.length c1)) ⟨e, 9, none⟩ (.int .u64 0) k (hne k hk)
    exact hq
  · exact below_set (below_set (below_set (below_set (below_set (below_set (below_set (below_set (below_set (below_set hb1 hge) hge) hge) hge) hge) hge) hge) hge) hge) hge
set_option maxRecDepth 100000 in
set_option maxHeartbeats 8000000 in
theorem sum_walk (g : Nat) (rv : Value) (st rest : List Int) (lg : Int) (w0 w : World) (hI : IsH w0 w g rv st rest lg) (hL : Laid w) (h2 : 2 ≤ w.heap.size) (hr : rest.length < 64) :
    Calls Tryd.prog 19 #[.pointer (some ⟨g, 0, none⟩)] w fun e w' => e = .returned (.string (strOfNums (sumL st rest lg))) ∧ Below w.heap.size w w' := by
  obtain ⟨A0, k0, rfl, hk0⟩ := q_slice hI.row
  obtain ⟨s0, s1, s2, s3, s4, s5, s6, s7, rfl⟩ := eight st hI.len
  have c8 := (blk_cell hI.blk 8).trans (hc8 _ _ _ hI.len)
  have c9 := (blk_cell hI.blk 9).trans (hc9 _ _ _ hI.len)
  have g0 := blk_cell hI.blk 0
  have g1 := blk_cell hI.blk 1
  have g2 := blk_cell hI.blk 2
  have g3 := blk_cell hI.blk 3
  have g4 := blk_cell hI.blk 4
  have g5 := blk_cell hI.blk 5
  have g6 := blk_cell hI.blk 6
  have g7 := blk_cell hI.blk 7
  simp [HCells, nums] at g0 g1 g2 g3 g4 g5 g6 g7
  have hlt := blk_lt hI.blk
  have HR := Aside0.mk (reads_all hI.row)
  have HI := Aside0.mk hI
  have HL := Aside0.mk hL
  clear hI hL
  go_enter Tryd.func19, Tryd.ntmps19
  go_upto_region 1 with fail
  go_cut [3] (fun x3 wx => ∃ (e : Nat) (rv2 : Value), x3 = .pointer (some ⟨e, 0, none⟩) ∧ Aside0 (IsH w wx e rv2 [s0, s1, s2, s3, s4, s5, s6, s7] rest 0 ∧ Below w.heap.size w wx))
  case first =>
    generalize hw9 : w = w9 at *
    have HBl := Below.refl w9.heap.size w9
    have n1 : g ≠ w9.heap.size := by omega
    have n2 : g ≠ w9.heap.size + 1 := by omega
    go_region_held3 (fun w' => w'.cell? ⟨g, 0, none⟩ = some (.int .u32 s0) ∧ w'.cell? ⟨g, 1, none⟩ = some (.int .u32 s1) ∧ w'.cell? ⟨g, 2, none⟩ = some (.int .u32 s2) ∧ w'.cell? ⟨g, 3, none⟩ = some (.int .u32 s3) ∧ w'.cell? ⟨g, 4, none⟩ = some (.int .u32 s4) ∧ w'.cell? ⟨g, 5, none⟩ = some (.int .u32 s5) ∧ w'.cell? ⟨g, 6, none⟩ = some (.int .u32 s6) ∧ w'.cell? ⟨g, 7, none⟩ = some (.int .u32 s7) ∧ w'.cell? ⟨g, 8, none⟩ = some (.slice A0 rest.length k0))
      (first | (go_split_ands; refine ⟨?_, ?_, ?_, ?_, ?_, ?_, ?_, ?_, ?_⟩ <;> first | ((repeat (with_reducible first | assumption | refine cell_keep_far (by with_reducible assumption) ?_ | refine cell_keep_alloc ?_ | refine cell_keep_drew ?_)); done) | (simp [*, World.cell?_alloc_some, World.cell?_setCell_far]; done)))
      (first | (refine Kd.R_append_rows_step (Kd.int .u8) (w0 := w9) w9.heap.size (by rfl) (.tmp 13) (.tmp 17) 32 5 (.int .u8 0) 1 rfl Tryd.underlying32 info5 rfl (by decide) (by decide) _ [] rest A0 _ k0 (fun _ => True) (fun _ => False) rfl rfl ?aO (Kd.C_below HR.out ?aR) (fun _ _ h => h) (fun _ h => h.elim) (fun _ _ => trivial) ?aB ?aS (by simp only [List.length_nil]; omega) ?_; (case aO => first | exact Kd.R_drew (empty_own w9 _ (Nat.le_refl _)) | exact Kd.R_drew (Kd.R_alloc (empty_own w9 _ (Nat.le_refl _)) _) | (have h_ := Kd.R_drew (empty_own (w9.alloc (.cells #[.int .u32 0, .int .u32 0, .int .u32 0, .int .u32 0, .int .u32 0, .int .u32 0, .int .u32 0, .int .u32 0, .slice none 0 0, .int .u64 0] 73)) w9.heap.size (by simp)); simp at h_; exact h_)); (case aR => repeat (first | assumption | (with_reducible first | exact Below.refl _ _ | apply below_drew1 | apply pw_below_drewN | apply below_alloc) | (with_reducible refine below_set ?_ (by first | exact Nat.le_refl _ | (simp; done) | omega | (simp; omega))))); (case aB => repeat (first | assumption | (with_reducible first | exact Below.refl _ _ | apply below_drew1 | apply pw_below_drewN | apply below_alloc) | (with_reducible refine below_set ?_ (by first | exact Nat.le_refl _ | (simp; done) | omega | (simp; omega))))); (case aS => first | exact Nat.le_refl _ | (simp; done) | (simp; omega)); intro v1 w1 hr1 hb1 hg1 hat1; simp only [List.nil_append] at hr1; obtain ⟨A1, c1, rfl⟩ := Kd.R_slice hr1; have q0 := (hb1.cell (p := ⟨g, 0, none⟩) hlt).trans g0; have q1 := (hb1.cell (p := ⟨g, 1, none⟩) hlt).trans g1; have q2 := (hb1.cell (p := ⟨g, 2, none⟩) hlt).trans g2; have q3 := (hb1.cell (p := ⟨g, 3, none⟩) hlt).trans g3; have q4 := (hb1.cell (p := ⟨g, 4, none⟩) hlt).trans g4; have q5 := (hb1.cell (p := ⟨g, 5, none⟩) hlt).trans g5; have q6 := (hb1.cell (p := ⟨g, 6, none⟩) hlt).trans g6; have q7 := (hb1.cell (p := ⟨g, 7, none⟩) hlt).trans g7; have q8 := (hb1.cell (p := ⟨g, 8, none⟩) hlt).trans c8; have q9 : g ≠ w1.heap.size := (by have := hb1.size; omega); (first | (have hg2 : World.grownBy ((w9.alloc (.cells #[] 5)).alloc (.cells #[.int .u32 0, .int .u32 0, .int .u32 0, .int .u32 0, .int .u32 0, .int .u32 0, .int .u32 0, .int .u32 0, .slice none 0 0, .int .u64 0] 73)).drew w1 (some w9.heap.size) := hg1; obtain ⟨hE, ec0, ef0, ec1, ef1, ec2, ef2, ec3, ef3, ec4, ef4, ec5, ef5, ec6, ef6, ec7, ef7, ec8, ef8, ec9, ef9⟩ := end_facts (e := w9.heap.size + 1) hg2 (heap_two w9 _ _) (by simp)) | (have hg2 : World.grownBy ((w9.alloc (.cells #[.int .u32 0, .int .u32 0, .int .u32 0, .int .u32 0, .int .u32 0, .int .u32 0, .int .u32 0, .int .u32 0, .slice none 0 0, .int .u64 0] 73)).alloc (.cells #[] 5)).drew w1 (some (w9.heap.size + 1)) := hg1; obtain ⟨hE, ec0, ef0, ec1, ef1, ec2, ef2, ec3, ef3, ec4, ef4, ec5, ef5, ec6, ef6, ec7, ef7, ec8, ef8, ec9, ef9⟩ := end_facts (e := w9.heap.size) hg2 (heap_alloc_old_ w9 _ _) (by simp)) | skip)))
    · go_wp2_with fail
      go_meet
      exact ⟨w1.heap.size, _, rfl, ⟨first_a _ _ _ _ _ _ _ _ hb1 hr1⟩⟩
    · go_wp2_with fail
      go_meet
      exact ⟨w9.heap.size + 1, _, rfl, ⟨first_b _ _ _ _ _ _ _ _ hb1 hE (Nat.le_succ _) hr1⟩⟩
    · go_wp2_with fail
      go_meet
      exact ⟨w9.heap.size, _, rfl, ⟨first_b _ _ _ _ _ _ _ _ hb1 hE (Nat.le_refl _) hr1⟩⟩
  case rest =>
    obtain ⟨e, rv2, rfl, HE⟩ := hcut
    clear c8 g0 g1 g2 g3 g4 g5 g6 g7 HR
    obtain ⟨A2, k2, rfl, hk2⟩ := q_slice HE.out.1.row
    go_wp2_with fail
    go_loopg [4] 130 (fun kq v4 w' => ∃ j : Nat, Aside0 (j + kq = 130 ∧ j ≤ zs rest.length) ∧ Aside0 (Kd.R (Kd.int .u8) 5 w' w.heap.size (fun k => some k ≠ (Value.slice A2 rest.length k2).ownBlock) v4 (128 :: List.replicate j 0)) ∧ Aside0 (IsH w w' e (.slice A2 rest.length k2) [s0, s1, s2, s3, s4, s5, s6, s7] rest 0 ∧ Below w.heap.size w w'))
    case atStart => exact ⟨0, ⟨rfl, Nat.zero_le _⟩, ⟨one_own wc _ HE.out.2.size 128 _ (q_fresh HE.out.1 _ (Nat.le_refl _))⟩, ⟨HE.out.1.below (below_alloc (Below.refl _ _) _), below_alloc HE.out.2 _⟩⟩
    case round =>
      obtain ⟨j, HJ, HP, HH⟩ := hrel
      clear HE
      obtain ⟨A4, c4, rfl⟩ := Kd.R_slice HP.out
      have hlen : (128 :: List.replicate j (0 : Int)).length = j + 1 := by simp
      rw [hlen] at HP ⊢
      have d8 := (blk_cell HH.out.1.blk 8).trans (hc8 _ _ _ HH.out.1.len)
      clear hlen
      by_cases q1 : j < zs rest.length
      · obtain ⟨kq1, rfl⟩ : ∃ kq1, gk = kq1 + 1 := ⟨gk - 1, by have := HJ.out; unfold zs at this; omega⟩
        have t1 : (((rest.length : Int) + ((j : Int) + 1)) % 64 == 56) = false := by unfold zs at q1; simp; omega
        have t2 : (((rest.length : Int) + ((j : Int) + 1)) % 64 != 56) = true := by unfold zs at q1; simp; omega
        have hjb : j ≤ 130 := by have := HJ.out; omega
        have HQ := Aside0.mk q1
        clear q1
        go_wp2_with (first | ((with_reducible refine gate_builtin (b := .append) (xs := #[.tmp 29, .tmp 30]) rfl ?_); at_builtin; refine Kd.R_append (Kd.int .u8) (w0 := w) w.heap.size rfl (.tmp 29) (.tmp 30) 32 5 (.int .u8 0) 1 rfl Tryd.underlying32 info5 rfl (by decide) (by decide) _ (128 :: List.replicate j 0) 0 [.int .u8 0] (fun k => some k ≠ (Value.slice A2 rest.length k2).ownBlock) (fun _ => False) rfl rfl rfl (fun _ h => h.elim) (q_fresh HH.out.1) HP.out HH.out.2 HH.out.2.size (by simp; omega) ?_; intro v1 w5 hr5 hb5 hg5 _; rw [snoc_rep] at hr5; have HP5 := Aside0.mk hr5; have HH5 := Aside0.mk (And.intro (pad_kept HH.out.1 HP.out hg5) hb5); clear hr5 hb5 hg5 d8))
        go_roundg kq1
        case measure => omega
        case rel => exact ⟨j + 1, ⟨by have := HJ.out; omega, HQ.out⟩, HP5, HH5⟩
      · have hz : j = zs rest.length := by have := HJ.out; omega
        have t1 : (((rest.length : Int) + ((j : Int) + 1)) % 64 == 56) = true := by rw [hz]; unfold zs; simp; omega
        have t2 : (((rest.length : Int) + ((j : Int) + 1)) % 64 != 56) = false := by rw [hz]; unfold zs; simp; omega
        have hjb : j ≤ 130 := by have := HJ.out; unfold zs at this; omega
        have HZ := Aside0.mk hz
        clear q1 hz
        obtain ⟨L, hL⟩ : ∃ L, IntKind.u64.wrap (8 * lg) = L := ⟨_, rfl⟩
        generalize hPd : (128 :: List.replicate j (0 : Int)) = Pd at *
        have HPd := Aside0.mk hPd
        have hPl : Pd.length = j + 1 := by rw [← hPd]; simp
        have HPl := Aside0.mk hPl
        clear hPd hPl
        go_wp2_with fail
        go_loopg [4, 5] 9 (fun kq v4 v5 w' => ∃ q : Nat, v5 = .int .i64 (56 - 8 * (q : Int)) ∧ Aside0 (q + kq = 9 ∧ q ≤ 8) ∧ Aside0 (Kd.R (Kd.int .u8) 5 w' w.heap.size (fun k => some k ≠ (Value.slice A2 rest.length k2).ownBlock) v4 (Pd ++ (lenB L).take q)) ∧ Aside0 (IsH w w' e (.slice A2 rest.length k2) [s0, s1, s2, s3, s4, s5, s6, s7] rest 0 ∧ Below w.heap.size w w'))
        case atStart => exact ⟨0, rfl, ⟨rfl, Nat.zero_le _⟩, ⟨by rw [List.take_zero, List.append_nil]; exact HP.out⟩, HH⟩
        case round =>
          obtain ⟨q, rfl, HJ2, HP2, HH2⟩ := hrel
          clear HP HH d8 t1 t2
          obtain ⟨A5, c5, rfl⟩ := Kd.R_slice HP2.out
          have hl5 : (Pd ++ (lenB L).take q).length = j + 1 + q := by rw [List.length_append, List.length_take, HPl.out, show (lenB L).length = 8 from rfl, Nat.min_eq_left HJ2.out.2]
          rw [hl5] at HP2 ⊢
          have d9 := (HH2.out.2.cell (p := ⟨g, 9, none⟩) hlt).trans c9
          clear hl5
          by_cases q1 : q < 8
          · obtain ⟨kq1, rfl⟩ : ∃ kq1, gk = kq1 + 1 := ⟨gk - 1, by have := HJ2.out; omega⟩
            have HQ := Aside0.mk q1
            have hq : q = 0 ∨ q = 1 ∨ q = 2 ∨ q = 3 ∨ q = 4 ∨ q = 5 ∨ q = 6 ∨ q = 7 := by omega
            clear q1
            rcases hq with rfl | rfl | rfl | rfl | rfl | rfl | rfl | rfl
            · go_wp2_with (first | ((with_reducible refine gate_builtin (b := .append) (xs := #[.tmp 36, .tmp 45]) rfl ?_); at_builtin; refine Kd.R_append (Kd.int .u8) (w0 := w) w.heap.size rfl (.tmp 36) (.tmp 45) 32 5 (.int .u8 0) 1 rfl Tryd.underlying32 info5 rfl (by decide) (by decide) _ (Pd ++ (lenB L).take 0) (L / 72057594037927936 % 256) [.int .u8 (L / 72057594037927936 % 256)] (fun k => some k ≠ (Value.slice A2 rest.length k2).ownBlock) (fun _ => False) rfl rfl rfl (fun _ h => h.elim) (q_fresh HH2.out.1) HP2.out HH2.out.2 HH2.out.2.size (by rw [List.length_append, List.length_take, HPl.out]; omega) ?_; intro v1 w5 hr5 hb5 hg5 _; have HP5 := Aside0.mk hr5; have HH5 := Aside0.mk (And.intro (pad_kept HH2.out.1 HP2.out hg5) hb5); clear hr5 hb5 hg5 d9))
              go_roundg kq1
              case measure => omega
              case rel => exact ⟨1, by simp, ⟨by have := HJ2.out; omega, by decide⟩, ⟨by rw [List.append_assoc] at HP5; exact HP5.out⟩, HH5⟩
            · go_wp2_with (first | ((with_reducible refine gate_builtin (b := .append) (xs := #[.tmp 36, .tmp 45]) rfl ?_); at_builtin; refine Kd.R_append (Kd.int .u8) (w0 := w) w.heap.size rfl (.tmp 36) (.tmp 45) 32 5 (.int .u8 0) 1 rfl Tryd.underlying32 info5 rfl (by decide) (by decide) _ (Pd ++ (lenB L).take 1) (L / 281474976710656 % 256) [.int .u8 (L / 281474976710656 % 256)] (fun k => some k ≠ (Value.slice A2 rest.length k2).ownBlock) (fun _ => False) rfl rfl rfl (fun _ h => h.elim) (q_fresh HH2.out.1) HP2.out HH2.out.2 HH2.out.2.size (by rw [List.length_append, List.length_take, HPl.out]; omega) ?_; intro v1 w5 hr5 hb5 hg5 _; have HP5 := Aside0.mk hr5; have HH5 := Aside0.mk (And.intro (pad_kept HH2.out.1 HP2.out hg5) hb5); clear hr5 hb5 hg5 d9))
              go_roundg kq1
              case measure => omega
              case rel => exact ⟨2, by simp, ⟨by have := HJ2.out; omega, by decide⟩, ⟨by rw [List.append_assoc] at HP5; exact HP5.out⟩, HH5⟩
            · go_wp2_with (first | ((with_reducible refine gate_builtin (b := .append) (xs := #[.tmp 36, .tmp 45]) rfl ?_); at_builtin; refine Kd.R_append (Kd.int .u8) (w0 := w) w.heap.size rfl (.tmp 36) (.tmp 45) 32 5 (.int .u8 0) 1 rfl Tryd.underlying32 info5 rfl (by decide) (by decide) _ (Pd ++ (lenB L).take 2) (L / 1099511627776 % 256) [.int .u8 (L / 1099511627776 % 256)] (fun k => some k ≠ (Value.slice A2 rest.length k2).ownBlock) (fun _ => False) rfl rfl rfl (fun _ h => h.elim) (q_fresh HH2.out.1) HP2.out HH2.out.2 HH2.out.2.size (by rw [List.length_append, List.length_take, HPl.out]; omega) ?_; intro v1 w5 hr5 hb5 hg5 _; have HP5 := Aside0.mk hr5; have HH5 := Aside0.mk (And.intro (pad_kept HH2.out.1 HP2.out hg5) hb5); clear hr5 hb5 hg5 d9))
              go_roundg kq1
              case measure => omega
              case rel => exact ⟨3, by simp, ⟨by have := HJ2.out; omega, by decide⟩, ⟨by rw [List.append_assoc] at HP5; exact HP5.out⟩, HH5⟩
            · go_wp2_with (first | ((with_reducible refine gate_builtin (b := .append) (xs := #[.tmp 36, .tmp 45]) rfl ?_); at_builtin; refine Kd.R_append (Kd.int .u8) (w0 := w) w.heap.size rfl (.tmp 36) (.tmp 45) 32 5 (.int .u8 0) 1 rfl Tryd.underlying32 info5 rfl (by decide) (by decide) _ (Pd ++ (lenB L).take 3) (L / 4294967296 % 256) [.int .u8 (L / 4294967296 % 256)] (fun k => some k ≠ (Value.slice A2 rest.length k2).ownBlock) (fun _ => False) rfl rfl rfl (fun _ h => h.elim) (q_fresh HH2.out.1) HP2.out HH2.out.2 HH2.out.2.size (by rw [List.length_append, List.length_take, HPl.out]; omega) ?_; intro v1 w5 hr5 hb5 hg5 _; have HP5 := Aside0.mk hr5; have HH5 := Aside0.mk (And.intro (pad_kept HH2.out.1 HP2.out hg5) hb5); clear hr5 hb5 hg5 d9))
              go_roundg kq1
              case measure => omega
              case rel => exact ⟨4, by simp, ⟨by have := HJ2.out; omega, by decide⟩, ⟨by rw [List.append_assoc] at HP5; exact HP5.out⟩, HH5⟩
            · go_wp2_with (first | ((with_reducible refine gate_builtin (b := .append) (xs := #[.tmp 36, .tmp 45]) rfl ?_); at_builtin; refine Kd.R_append (Kd.int .u8) (w0 := w) w.heap.size rfl (.tmp 36) (.tmp 45) 32 5 (.int .u8 0) 1 rfl Tryd.underlying32 info5 rfl (by decide) (by decide) _ (Pd ++ (lenB L).take 4) (L / 16777216 % 256) [.int .u8 (L / 16777216 % 256)] (fun k => some k ≠ (Value.slice A2 rest.length k2).ownBlock) (fun _ => False) rfl rfl rfl (fun _ h => h.elim) (q_fresh HH2.out.1) HP2.out HH2.out.2 HH2.out.2.size (by rw [List.length_append, List.length_take, HPl.out]; omega) ?_; intro v1 w5 hr5 hb5 hg5 _; have HP5 := Aside0.mk hr5; have HH5 := Aside0.mk (And.intro (pad_kept HH2.out.1 HP2.out hg5) hb5); clear hr5 hb5 hg5 d9))
              go_roundg kq1
              case measure => omega
              case rel => exact ⟨5, by simp, ⟨by have := HJ2.out; omega, by decide⟩, ⟨by rw [List.append_assoc] at HP5; exact HP5.out⟩, HH5⟩
            · go_wp2_with (first | ((with_reducible refine gate_builtin (b := .append) (xs := #[.tmp 36, .tmp 45]) rfl ?_); at_builtin; refine Kd.R_append (Kd.int .u8) (w0 := w) w.heap.size rfl (.tmp 36) (.tmp 45) 32 5 (.int .u8 0) 1 rfl Tryd.underlying32 info5 rfl (by decide) (by decide) _ (Pd ++ (lenB L).take 5) (L / 65536 % 256) [.int .u8 (L / 65536 % 256)] (fun k => some k ≠ (Value.slice A2 rest.length k2).ownBlock) (fun _ => False) rfl rfl rfl (fun _ h => h.elim) (q_fresh HH2.out.1) HP2.out HH2.out.2 HH2.out.2.size (by rw [List.length_append, List.length_take, HPl.out]; omega) ?_; intro v1 w5 hr5 hb5 hg5 _; have HP5 := Aside0.mk hr5; have HH5 := Aside0.mk (And.intro (pad_kept HH2.out.1 HP2.out hg5) hb5); clear hr5 hb5 hg5 d9))
              go_roundg kq1
              case measure => omega
              case rel => exact ⟨6, by simp, ⟨by have := HJ2.out; omega, by decide⟩, ⟨by rw [List.append_assoc] at HP5; exact HP5.out⟩, HH5⟩
            · go_wp2_with (first | ((with_reducible refine gate_builtin (b := .append) (xs := #[.tmp 36, .tmp 45]) rfl ?_); at_builtin; refine Kd.R_append (Kd.int .u8) (w0 := w) w.heap.size rfl (.tmp 36) (.tmp 45) 32 5 (.int .u8 0) 1 rfl Tryd.underlying32 info5 rfl (by decide) (by decide) _ (Pd ++ (lenB L).take 6) (L / 256 % 256) [.int .u8 (L / 256 % 256)] (fun k => some k ≠ (Value.slice A2 rest.length k2).ownBlock) (fun _ => False) rfl rfl rfl (fun _ h => h.elim) (q_fresh HH2.out.1) HP2.out HH2.out.2 HH2.out.2.size (by rw [List.length_append, List.length_take, HPl.out]; omega) ?_; intro v1 w5 hr5 hb5 hg5 _; have HP5 := Aside0.mk hr5; have HH5 := Aside0.mk (And.intro (pad_kept HH2.out.1 HP2.out hg5) hb5); clear hr5 hb5 hg5 d9))
              go_roundg kq1
              case measure => omega
              case rel => exact ⟨7, by simp, ⟨by have := HJ2.out; omega, by decide⟩, ⟨by rw [List.append_assoc] at HP5; exact HP5.out⟩, HH5⟩
            · go_wp2_with (first | ((with_reducible refine gate_builtin (b := .append) (xs := #[.tmp 36, .tmp 45]) rfl ?_); at_builtin; refine Kd.R_append (Kd.int .u8) (w0 := w) w.heap.size rfl (.tmp 36) (.tmp 45) 32 5 (.int .u8 0) 1 rfl Tryd.underlying32 info5 rfl (by decide) (by decide) _ (Pd ++ (lenB L).take 7) (L % 256) [.int .u8 (L % 256)] (fun k => some k ≠ (Value.slice A2 rest.length k2).ownBlock) (fun _ => False) rfl rfl rfl (fun _ h => h.elim) (q_fresh HH2.out.1) HP2.out HH2.out.2 HH2.out.2.size (by rw [List.length_append, List.length_take, HPl.out]; omega) ?_; intro v1 w5 hr5 hb5 hg5 _; have HP5 := Aside0.mk hr5; have HH5 := Aside0.mk (And.intro (pad_kept HH2.out.1 HP2.out hg5) hb5); clear hr5 hb5 hg5 d9))
              go_roundg kq1
              case measure => omega
              case rel => exact ⟨8, by simp, ⟨by have := HJ2.out; omega, by decide⟩, ⟨by rw [List.append_assoc] at HP5; exact HP5.out⟩, HH5⟩
          · obtain rfl : q = 8 := by have := HJ2.out; omega
            have hpad : Pd ++ (lenB L).take 8 = padS rest.length lg := by rw [List.take_of_length_le (show (lenB L).length ≤ 8 from Nat.le_refl _)]; unfold padS; rw [← HPd.out, HZ.out, hL]
            rw [hpad] at HP2
            have hsz : (strOfNums (padS rest.length lg)).size ≤ 200 := by rw [strOfNums_size', ← hpad, List.length_append, HPl.out, List.length_take]; omega
            have hby : bytesOf (strOfNums (padS rest.length lg)) = padS rest.length lg := bytesOf_strOfNums _ (padS_byte _ _)
            have hcv := own_string (P := Tryd.prog) Tryd.underlying32 Tryd.underlying5 Tryd.underlying9 (Kd.own_of_R HP2.out)
            have HCV := Aside0.mk (And.intro hsz hby)
            obtain ⟨PS, hPS⟩ : ∃ PS, strOfNums (padS rest.length lg) = PS := ⟨_, rfl⟩
            rw [hPS] at hcv HCV
            clear hsz hby hpad q1 hPS d9
            go_wp2_with fail
            refine (write_walk e _ _ rest 0 PS w wr HH2.out.1 HL.out h2 HH2.out.2 (by omega) (by have := HCV.out; omega)).mono ?_
            rw [HCV.out.2]
            rintro en w6 ⟨rfl, rv6, hI6, _, hB6⟩
            generalize hab : absorb ((rest ++ padS rest.length lg).length + 1) [s0, s1, s2, s3, s4, s5, s6, s7] (rest ++ padS rest.length lg) = R6 at *
            have HAB := Aside0.mk hab
            clear hab hcv HH2 HP2
            obtain ⟨y0, y1, y2, y3, y4, y5, y6, y7, hy⟩ := eight R6.1 hI6.len
            rw [hy] at hI6
            have HY := Aside0.mk hy
            have HI6 := Aside0.mk (And.intro hI6 hB6)
            have m0 := blk_cell hI6.blk 0
            have m1 := blk_cell hI6.blk 1
            have m2 := blk_cell hI6.blk 2
            have m3 := blk_cell hI6.blk 3
            have m4 := blk_cell hI6.blk 4
            have m5 := blk_cell hI6.blk 5
            have m6 := blk_cell hI6.blk 6
            have m7 := blk_cell hI6.blk 7
            simp [HCells, nums] at m0 m1 m2 m3 m4 m5 m6 m7
            clear hI6 hB6 hy
            go_wp2_with fail
            go_loopg [6, 52] 9 (fun kq v6 v52 w' => ∃ t : Nat, v52 = .int .i64 (t : Int) ∧ Aside0 (t + kq = 9 ∧ t ≤ 8) ∧ Aside0 (Kd.R (Kd.int .u8) 5 w' w.heap.size (fun _ => True) v6 (outL ([y0, y1, y2, y3, y4, y5, y6, y7].take t))) ∧ Aside0 (Below w.heap.size w w'))
            case atStart => exact ⟨0, rfl, ⟨rfl, Nat.zero_le _⟩, ⟨Kd.R_nil _ _ _ _ _⟩, ⟨HI6.out.2⟩⟩
            case round =>
              obtain ⟨t, rfl, HT, HO, HB7⟩ := hrel
              clear HI6 m0 m1 m2 m3 m4 m5 m6 m7
              obtain ⟨A7, c7, rfl⟩ := Kd.R_slice HO.out
              have hlo : (outL ([y0, y1, y2, y3, y4, y5, y6, y7].take t)).length = 4 * t := by rw [outL_len, List.length_take]; have := HT.out.2; simp; omega
              rw [hlo] at HO ⊢
              clear hlo
              by_cases q1 : t < 8
              · obtain ⟨kq1, rfl⟩ : ∃ kq1, gk = kq1 + 1 := ⟨gk - 1, by have := HT.out; omega⟩
                have ht : t = 0 ∨ t = 1 ∨ t = 2 ∨ t = 3 ∨ t = 4 ∨ t = 5 ∨ t = 6 ∨ t = 7 := by omega
                clear q1
                rcases ht with rfl | rfl | rfl | rfl | rfl | rfl | rfl | rfl
                · go_wp2_with (first | ((with_reducible refine gate_builtin (b := .append) (xs := #[.tmp 55, .tmp 67]) rfl ?_); at_builtin; refine Kd.R_append_rows (Kd.int .u8) (w0 := w) w.heap.size rfl (.tmp 55) (.tmp 67) 32 5 (.int .u8 0) 1 rfl Tryd.underlying32 info5 rfl (by decide) (by decide) _ (outL ([y0, y1, y2, y3, y4, y5, y6, y7].take 0)) [y0 / 16777216 % 256, y0 / 65536 % 256, y0 / 256 % 256, y0 % 256] (some ⟨wr.heap.size, 0, none⟩) 4 4 (fun _ => True) (fun _ => False) rfl rfl (Kd.R_alloc HO.out _) (four_reads wr _ _ _ _) (fun _ _ h => h) (fun _ h => h.elim) (fun _ _ => trivial) (below_alloc HB7.out _) (below_alloc HB7.out _).size (by rw [outL_len, List.length_take]; simp) ?_; intro v1 w8 hr8 hb8 hg8 _; have HO8 := Aside0.mk hr8; have HB8 := Aside0.mk hb8; clear hr8 hb8 hg8))
                  go_roundg kq1
                  case measure => omega
                  case rel => exact ⟨1, by simp, ⟨by have := HT.out; omega, by decide⟩, ⟨HO8.out⟩, HB8⟩
                · go_wp2_with (first | ((with_reducible refine gate_builtin (b := .append) (xs := #[.tmp 55, .tmp 67]) rfl ?_); at_builtin; refine Kd.R_append_rows (Kd.int .u8) (w0 := w) w.heap.size rfl (.tmp 55) (.tmp 67) 32 5 (.int .u8 0) 1 rfl Tryd.underlying32 info5 rfl (by decide) (by decide) _ (outL ([y0, y1, y2, y3, y4, y5, y6, y7].take 1)) [y1 / 16777216 % 256, y1 / 65536 % 256, y1 / 256 % 256, y1 % 256] (some ⟨wr.heap.size, 0, none⟩) 4 4 (fun _ => True) (fun _ => False) rfl rfl (Kd.R_alloc HO.out _) (four_reads wr _ _ _ _) (fun _ _ h => h) (fun _ h => h.elim) (fun _ _ => trivial) (below_alloc HB7.out _) (below_alloc HB7.out _).size (by rw [outL_len, List.length_take]; simp) ?_; intro v1 w8 hr8 hb8 hg8 _; have HO8 := Aside0.mk hr8; have HB8 := Aside0.mk hb8; clear hr8 hb8 hg8))
                  go_roundg kq1
                  case measure => omega
                  case rel => exact ⟨2, by simp, ⟨by have := HT.out; omega, by decide⟩, ⟨HO8.out⟩, HB8⟩
                · go_wp2_with (first | ((with_reducible refine gate_builtin (b := .append) (xs := #[.tmp 55, .tmp 67]) rfl ?_); at_builtin; refine Kd.R_append_rows (Kd.int .u8) (w0 := w) w.heap.size rfl (.tmp 55) (.tmp 67) 32 5 (.int .u8 0) 1 rfl Tryd.underlying32 info5 rfl (by decide) (by decide) _ (outL ([y0, y1, y2, y3, y4, y5, y6, y7].take 2)) [y2 / 16777216 % 256, y2 / 65536 % 256, y2 / 256 % 256, y2 % 256] (some ⟨wr.heap.size, 0, none⟩) 4 4 (fun _ => True) (fun _ => False) rfl rfl (Kd.R_alloc HO.out _) (four_reads wr _ _ _ _) (fun _ _ h => h) (fun _ h => h.elim) (fun _ _ => trivial) (below_alloc HB7.out _) (below_alloc HB7.out _).size (by rw [outL_len, List.length_take]; simp) ?_; intro v1 w8 hr8 hb8 hg8 _; have HO8 := Aside0.mk hr8; have HB8 := Aside0.mk hb8; clear hr8 hb8 hg8))
                  go_roundg kq1
                  case measure => omega
                  case rel => exact ⟨3, by simp, ⟨by have := HT.out; omega, by decide⟩, ⟨HO8.out⟩, HB8⟩
                · go_wp2_with (first | ((with_reducible refine gate_builtin (b := .append) (xs := #[.tmp 55, .tmp 67]) rfl ?_); at_builtin; refine Kd.R_append_rows (Kd.int .u8) (w0 := w) w.heap.size rfl (.tmp 55) (.tmp 67) 32 5 (.int .u8 0) 1 rfl Tryd.underlying32 info5 rfl (by decide) (by decide) _ (outL ([y0, y1, y2, y3, y4, y5, y6, y7].take 3)) [y3 / 16777216 % 256, y3 / 65536 % 256, y3 / 256 % 256, y3 % 256] (some ⟨wr.heap.size, 0, none⟩) 4 4 (fun _ => True) (fun _ => False) rfl rfl (Kd.R_alloc HO.out _) (four_reads wr _ _ _ _) (fun _ _ h => h) (fun _ h => h.elim) (fun _ _ => trivial) (below_alloc HB7.out _) (below_alloc HB7.out _).size (by rw [outL_len, List.length_take]; simp) ?_; intro v1 w8 hr8 hb8 hg8 _; have HO8 := Aside0.mk hr8; have HB8 := Aside0.mk hb8; clear hr8 hb8 hg8))
                  go_roundg kq1
                  case measure => omega
                  case rel => exact ⟨4, by simp, ⟨by have := HT.out; omega, by decide⟩, ⟨HO8.out⟩, HB8⟩
                · go_wp2_with (first | ((with_reducible refine gate_builtin (b := .append) (xs := #[.tmp 55, .tmp 67]) rfl ?_); at_builtin; refine Kd.R_append_rows (Kd.int .u8) (w0 := w) w.heap.size rfl (.tmp 55) (.tmp 67) 32 5 (.int .u8 0) 1 rfl Tryd.underlying32 info5 rfl (by decide) (by decide) _ (outL ([y0, y1, y2, y3, y4, y5, y6, y7].take 4)) [y4 / 16777216 % 256, y4 / 65536 % 256, y4 / 256 % 256, y4 % 256] (some ⟨wr.heap.size, 0, none⟩) 4 4 (fun _ => True) (fun _ => False) rfl rfl (Kd.R_alloc HO.out _) (four_reads wr _ _ _ _) (fun _ _ h => h) (fun _ h => h.elim) (fun _ _ => trivial) (below_alloc HB7.out _) (below_alloc HB7.out _).size (by rw [outL_len, List.length_take]; simp) ?_; intro v1 w8 hr8 hb8 hg8 _; have HO8 := Aside0.mk hr8; have HB8 := Aside0.mk hb8; clear hr8 hb8 hg8))
                  go_roundg kq1
                  case measure => omega
                  case rel => exact ⟨5, by simp, ⟨by have := HT.out; omega, by decide⟩, ⟨HO8.out⟩, HB8⟩
                · go_wp2_with (first | ((with_reducible refine gate_builtin (b := .append) (xs := #[.tmp 55, .tmp 67]) rfl ?_); at_builtin; refine Kd.R_append_rows (Kd.int .u8) (w0 := w) w.heap.size rfl (.tmp 55) (.tmp 67) 32 5 (.int .u8 0) 1 rfl Tryd.underlying32 info5 rfl (by decide) (by decide) _ (outL ([y0, y1, y2, y3, y4, y5, y6, y7].take 5)) [y5 / 16777216 % 256, y5 / 65536 % 256, y5 / 256 % 256, y5 % 256] (some ⟨wr.heap.size, 0, none⟩) 4 4 (fun _ => True) (fun _ => False) rfl rfl (Kd.R_alloc HO.out _) (four_reads wr _ _ _ _) (fun _ _ h => h) (fun _ h => h.elim) (fun _ _ => trivial) (below_alloc HB7.out _) (below_alloc HB7.out _).size (by rw [outL_len, List.length_take]; simp) ?_; intro v1 w8 hr8 hb8 hg8 _; have HO8 := Aside0.mk hr8; have HB8 := Aside0.mk hb8; clear hr8 hb8 hg8))
                  go_roundg kq1
                  case measure => omega
                  case rel => exact ⟨6, by simp, ⟨by have := HT.out; omega, by decide⟩, ⟨HO8.out⟩, HB8⟩
                · go_wp2_with (first | ((with_reducible refine gate_builtin (b := .append) (xs := #[.tmp 55, .tmp 67]) rfl ?_); at_builtin; refine Kd.R_append_rows (Kd.int .u8) (w0 := w) w.heap.size rfl (.tmp 55) (.tmp 67) 32 5 (.int .u8 0) 1 rfl Tryd.underlying32 info5 rfl (by decide) (by decide) _ (outL ([y0, y1, y2, y3, y4, y5, y6, y7].take 6)) [y6 / 16777216 % 256, y6 / 65536 % 256, y6 / 256 % 256, y6 % 256] (some ⟨wr.heap.size, 0, none⟩) 4 4 (fun _ => True) (fun _ => False) rfl rfl (Kd.R_alloc HO.out _) (four_reads wr _ _ _ _) (fun _ _ h => h) (fun _ h => h.elim) (fun _ _ => trivial) (below_alloc HB7.out _) (below_alloc HB7.out _).size (by rw [outL_len, List.length_take]; simp) ?_; intro v1 w8 hr8 hb8 hg8 _; have HO8 := Aside0.mk hr8; have HB8 := Aside0.mk hb8; clear hr8 hb8 hg8))
                  go_roundg kq1
                  case measure => omega
                  case rel => exact ⟨7, by simp, ⟨by have := HT.out; omega, by decide⟩, ⟨HO8.out⟩, HB8⟩
                · go_wp2_with (first | ((with_reducible refine gate_builtin (b := .append) (xs := #[.tmp 55, .tmp 67]) rfl ?_); at_builtin; refine Kd.R_append_rows (Kd.int .u8) (w0 := w) w.heap.size rfl (.tmp 55) (.tmp 67) 32 5 (.int .u8 0) 1 rfl Tryd.underlying32 info5 rfl (by decide) (by decide) _ (outL ([y0, y1, y2, y3, y4, y5, y6, y7].take 7)) [y7 / 16777216 % 256, y7 / 65536 % 256, y7 / 256 % 256, y7 % 256] (some ⟨wr.heap.size, 0, none⟩) 4 4 (fun _ => True) (fun _ => False) rfl rfl (Kd.R_alloc HO.out _) (four_reads wr _ _ _ _) (fun _ _ h => h) (fun _ h => h.elim) (fun _ _ => trivial) (below_alloc HB7.out _) (below_alloc HB7.out _).size (by rw [outL_len, List.length_take]; simp) ?_; intro v1 w8 hr8 hb8 hg8 _; have HO8 := Aside0.mk hr8; have HB8 := Aside0.mk hb8; clear hr8 hb8 hg8))
                  go_roundg kq1
                  case measure => omega
                  case rel => exact ⟨8, by simp, ⟨by have := HT.out; omega, by decide⟩, ⟨HO8.out⟩, HB8⟩
              · obtain rfl : t = 8 := by have := HT.out; omega
                have hcv := own_string (P := Tryd.prog) Tryd.underlying32 Tryd.underlying5 Tryd.underlying9 (Kd.own_of_R HO.out)
                clear q1
                go_wp2
                go_ret
                exact ⟨by unfold sumL; rw [HAB.out, HY.out]; rfl, HB7.out⟩
end Go.Proofs.YtdnmllodefbekaaDoor.Sha
