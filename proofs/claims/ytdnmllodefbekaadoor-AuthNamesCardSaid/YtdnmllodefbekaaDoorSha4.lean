import Derived.Test.YtdnmllodefbekaaDoorSha3
namespace Go.Proofs.YtdnmllodefbekaaDoor.Sha
open Go.RowKit Go.Lib Go.Proofs.YtdnmllodefbekaaDoorW.PrintWords Go.Proofs.YtdnmllodefbekaaDoorW.PrintLast Go.Proofs.YtdnmllodefbekaaDoorW.PrintMore
set_option linter.unusedVariables false
set_option linter.unusedSimpArgs false
/-- A hash: its block, its state's words, the bytes that are left, the count. -/
structure IsH (w0 W : World) (g : Nat) (rv : Value) (st rest : List Int) (lg : Int) : Prop where
  ge : w0.heap.size ≤ g
  len : st.length = 8
  blk : W.heap[g]? = some (.cells (HCells st rv lg) 73 (0, 0))
  row : QRow W w0.heap.size 5 1 rv rest.length (nums .u8 rest)
/-- What a hash's call leaves as it was: all but its block and its row's. -/
def HKept (w W : World) (g : Nat) (rv rv' : Value) : Prop := Kept w W (fun k => k = g ∨ rv.ownBlock = some k) ∧ ∀ k, rv'.ownBlock = some k → rv.ownBlock = some k ∨ w.heap.size ≤ k
def absorb : Nat → List Int → List Int → List Int × List Int
  | 0, st, xs => (st, xs)
  | k + 1, st, xs => if 64 ≤ xs.length then absorb k (blk st (xs.take 64)) (xs.drop 64) else (st, xs)
theorem hc8 (st : List Int) (rv : Value) (lg : Int) (h : st.length = 8) : (HCells st rv lg)[8]? = some rv := by
  unfold HCells nums
  simp [List.getElem?_append, h]
theorem hc9 (st : List Int) (rv : Value) (lg : Int) (h : st.length = 8) : (HCells st rv lg)[9]? = some (.int .u64 lg) := by
  unfold HCells nums
  simp [List.getElem?_append, h]
theorem hs8 (st : List Int) (rv rv' : Value) (lg : Int) (h : st.length = 8) : (HCells st rv lg).setIfInBounds 8 rv' = HCells st rv' lg := by
  unfold HCells nums
  apply Array.ext'
  simp [List.set_append, h]
theorem hs9 (st : List Int) (rv : Value) (lg lg' : Int) (h : st.length = 8) : (HCells st rv lg).setIfInBounds 9 (.int .u64 lg') = HCells st rv lg' := by
  unfold HCells nums
  apply Array.ext'
  simp [List.set_append, h]
theorem IsH.ne {w0 W : World} {g : Nat} {rv : Value} {st rest : List Int} {lg : Int} (h : IsH w0 W g rv st rest lg) : ∀ k, rv.ownBlock = some k → k ≠ g := fun k hk e => by
  obtain ⟨_, c, hc⟩ := q_typed h.row k hk
  rw [e, h.blk] at hc; injection hc with hc; injection hc with _ hc; exact absurd hc (by decide)
theorem IsH.kept {w0 W W1 : World} {g : Nat} {rv : Value} {st rest : List Int} {lg : Int} {S : Nat → Prop} (h : IsH w0 W g rv st rest lg) (hk : Kept W W1 S) (hg : ¬ S g) (hr : ∀ k, rv.ownBlock = some k → ¬ S k) : IsH w0 W1 g rv st rest lg :=
  ⟨h.ge, h.len, blk_kept h.blk hk hg, q_move h.row fun k hk2 => hk.2 k (q_lt h.row k hk2) (hr k hk2)⟩
theorem IsH.below {w0 W W1 : World} {g : Nat} {rv : Value} {st rest : List Int} {lg : Int} (h : IsH w0 W g rv st rest lg) (hb : Below W.heap.size W W1) : IsH w0 W1 g rv st rest lg :=
  h.kept (Kept.of_below hb (fun _ => False)) (fun h => h) (fun _ _ h => h)
theorem info5 : (Tryd.prog.info? 5).map (fun i => (i.zero, i.size, i.bytes)) = some (some (.int .u8 0), 1, 1) := by kernel_rfl
theorem elem32 : Tryd.prog.elem 32 = 5 := by simp [Program.elem, Tryd.underlying32]
theorem cut_h (A : Option Addr) (n c : Nat) (h : 64 ≤ c) (W : World) : (Instr.slice 32 (.slice A n c) none (some (.int .i64 64)) none).run Tryd.prog W = .ok (.slice A 64 c) W := by
  obtain ⟨i0, hi, hzz⟩ := Option.map_eq_some_iff.1 info5
  simp only [Prod.mk.injEq] at hzz
  rw [run_slice_h W 32 A n c (by rw [elem32]; exact Tryd.underlying32) .i64 _ (by decide) (by omega)]
  cases A with
  | none => simp [sizeOf, typeInfo, elem32, hi, hzz.2.1, sliced, Result.andThen]
  | some a => simp [sizeOf, typeInfo, elem32, hi, hzz.2.1, sliced, Result.andThen, Addr.add]
theorem cut_l (A : Option Addr) (n c : Nat) (h : 64 ≤ n) (hc : n ≤ c) (W : World) : (Instr.slice 32 (.slice A n c) (some (.int .i64 64)) none none).run Tryd.prog W = .ok (.slice (if c = 64 then A else A.map (·.add (64 * 1))) (n - 64) (c - 64)) W := by
  obtain ⟨i0, hi, hzz⟩ := Option.map_eq_some_iff.1 info5
  simp only [Prod.mk.injEq] at hzz
  rw [run_slice_l W 32 A n c (by rw [elem32]; exact Tryd.underlying32) .i64 (64 : Int) (by decide) (by omega)]
  simp [sizeOf, typeInfo, elem32, hi, hzz.2.1, sliced, Result.andThen]
def WritePost (w0 w : World) (g : Nat) (rv : Value) (st' rest' : List Int) (lg' : Int) (e : Ending) (w' : World) : Prop :=
  e = .returned (.tuple #[]) ∧ ∃ rv', IsH w0 w' g rv' st' rest' lg' ∧ HKept w w' g rv rv' ∧ Below w0.heap.size w0 w'
theorem write_grown {w0 w W1 : World} {g : Nat} {rv : Value} {st rest : List Int} {lg lg' : Int} (hI : IsH w0 w g rv st rest lg) (h1 : (w.setCell ⟨g, 9, none⟩ (.int .u64 lg')).heap[g]? = some (.cells (HCells st rv lg') 73 (0, 0))) (hg : (w.setCell ⟨g, 9, none⟩ (.int .u64 lg')).grownBy W1 rv.ownBlock) :
    W1.heap[g]? = some (.cells (HCells st rv lg') 73 (0, 0)) ∧ Kept w W1 (fun k => k = g ∨ rv.ownBlock = some k) :=
  ⟨(hg.block g (blk_lt h1) fun e => hI.ne g e.symm rfl).trans h1, ⟨Nat.le_trans (by simp [World.setCell]) hg.size, fun i hi hn => (hg.block i (by simpa [World.setCell] using hi) fun e => hn (.inr e.symm)).trans (Below.heap_setCell w ⟨g, 9, none⟩ _ i fun e => hn (.inl e))⟩⟩
theorem write_start {w0 w W1 : World} {g : Nat} {rv v1 : Value} {st rest all : List Int} {lg lg' : Int} (hI : IsH w0 w g rv st rest lg) (h1 : W1.heap[g]? = some (.cells (HCells st rv lg') 73 (0, 0)) ∧ Kept w W1 (fun k => k = g ∨ rv.ownBlock = some k))
    (hq : QRow W1 w0.heap.size 5 1 v1 all.length (nums .u8 all)) (hB : Below w0.heap.size w0 W1) (hat : v1.ownBlock = rv.ownBlock ∨ ∃ b, v1.ownBlock = some b ∧ (w.setCell ⟨g, 9, none⟩ (.int .u64 lg')).heap.size ≤ b) (hsz : w0.heap.size ≤ w.heap.size) :
    IsH w0 (W1.setCell ⟨g, 8, none⟩ v1) g v1 st all lg' ∧ HKept w (W1.setCell ⟨g, 8, none⟩ v1) g rv v1 ∧ Below w0.heap.size w0 (W1.setCell ⟨g, 8, none⟩ v1) := by
  have hne : ∀ k, v1.ownBlock = some k → k ≠ g := fun k hk e => by
    obtain ⟨_, c, hc⟩ := q_typed hq k hk
    rw [e, h1.1] at hc; injection hc with hc; injection hc with _ hc; exact absurd hc (by decide)
  refine ⟨⟨hI.ge, hI.len, blk_put h1.1 8 _ (hs8 _ _ _ _ hI.len), q_move hq fun k hk => Below.heap_setCell W1 ⟨g, 8, none⟩ _ k (hne k hk)⟩, ⟨Kept.setCell h1.2 (p := ⟨g, 8, none⟩) (.inl (.inl rfl)) _, fun k hk => ?_⟩, below_set hB hI.ge⟩
  rcases hat with hat | ⟨b, hb, hle⟩
  · exact .inl (by rw [← hat]; exact hk)
  · rw [hb] at hk; injection hk with hk
    exact .inr (by rw [← hk]; simpa [World.setCell] using hle)
theorem reads64 {w : World} {base c : Nat} {A : Option Addr} {xs : List Int} (h : QRow w base 5 1 (.slice A xs.length c) xs.length (nums .u8 xs)) (hx : 64 ≤ xs.length) : ReadsInt w .u8 A 64 (xs.take 64) := by
  have h1 := q_take h hx
  obtain ⟨ad, rfl, hc⟩ := q_cells h1 (by decide)
  refine ⟨by rw [List.length_take]; omega, by decide, fun _ => ⟨ad, rfl, fun j hj => hc j _ ?_⟩⟩
  rw [Nat.mul_one, List.getElem?_take, if_pos hj]
  simp [nums, List.getD_eq_getElem?_getD, hj, show j < xs.length by omega]
theorem write_step {w0 w W W3 : World} {g k : Nat} {rv : Value} {A A3 : Option Addr} {st xs : List Int} {lg : Int} (h : IsH w0 W g (.slice A xs.length k) st xs lg ∧ HKept w W g rv (.slice A xs.length k) ∧ Below w0.heap.size w0 W)
    (hb : W3.heap[g]? = some (.cells (HCells (blk st (xs.take 64)) (.slice A xs.length k) lg) 73 (0, 0))) (hk : Kept W W3 (· = g) ∧ Below g W W3) (hx : 64 ≤ xs.length) (hA3 : (if k = 64 then A else A.map (·.add (64 * 1))) = A3) :
    IsH w0 (W3.setCell ⟨g, 8, none⟩ (.slice A3 (xs.length - 64) (k - 64))) g (.slice A3 (xs.length - 64) (k - 64)) (blk st (xs.take 64)) (xs.drop 64) lg ∧ HKept w (W3.setCell ⟨g, 8, none⟩ (.slice A3 (xs.length - 64) (k - 64))) g rv (.slice A3 (xs.length - 64) (k - 64)) ∧ Below w0.heap.size w0 (W3.setCell ⟨g, 8, none⟩ (.slice A3 (xs.length - 64) (k - 64))) := by
  obtain ⟨hI, ⟨hK, hat⟩, hB⟩ := h
  obtain ⟨hk, hbl⟩ := hk
  have hob : (Value.slice A3 (xs.length - 64) (k - 64)).ownBlock = (Value.slice A xs.length k).ownBlock := by
    rw [← hA3]
    cases A with
    | none => split <;> rfl
    | some a => split <;> simp [Value.ownBlock, Option.map, add_block]
  have hr3 : QRow W3 w0.heap.size 5 1 (.slice A xs.length k) xs.length (nums .u8 xs) := q_move hI.row fun j hj => hk.2 j (q_lt hI.row j hj) (hI.ne j hj)
  have hd := q_drop hr3 hx
  rw [hA3, Nat.mul_one] at hd
  have hn : (nums .u8 xs).drop 64 = nums .u8 (xs.drop 64) := by simp [nums, List.map_drop]
  rw [hn] at hd
  have hl : (xs.drop 64).length = xs.length - 64 := List.length_drop
  have hne : ∀ j, (Value.slice A3 (xs.length - 64) (k - 64)).ownBlock = some j → j ≠ g := fun j hj => hI.ne j (by rw [← hob]; exact hj)
  refine ⟨⟨hI.ge, blk_len _ _ hI.len, blk_put hb 8 _ (hs8 _ _ _ _ (blk_len _ _ hI.len)), ?_⟩, ⟨Kept.setCell (hK.then_ hk fun j hj => .inl (.inl hj)) (p := ⟨g, 8, none⟩) (.inl (.inl rfl)) _, fun j hj => hat j (by rw [← hob]; exact hj)⟩, below_set (hB.trans (hbl.mono hI.ge)) hI.ge⟩
  rw [hl]
  exact q_move hd fun j hj => Below.heap_setCell W3 ⟨g, 8, none⟩ _ j (hne j hj)
set_option maxRecDepth 100000 in
set_option maxHeartbeats 8000000 in
theorem write_walk (g : Nat) (rv : Value) (st rest : List Int) (lg : Int) (b : ByteArray) (w0 w : World) (hI : IsH w0 w g rv st rest lg) (hL : Laid w0) (h2 : 2 ≤ w0.heap.size) (hB : Below w0.heap.size w0 w) (hr : rest.length ≤ 1000000000) (hb : b.size ≤ 1000000000) :
    Calls Tryd.prog 18 #[.pointer (some ⟨g, 0, none⟩), .string b] w (WritePost w0 w g rv (absorb ((rest ++ bytesOf b).length + 1) st (rest ++ bytesOf b)).1 (absorb ((rest ++ bytesOf b).length + 1) st (rest ++ bytesOf b)).2 (IntKind.u64.wrap (lg + (b.size : Int)))) := by
  have c9 := (blk_cell hI.blk 9).trans (hc9 st rv lg hI.len)
  have c8 := (blk_cell hI.blk 8).trans (hc8 st rv lg hI.len)
  have f9 := blk_frozen hI.blk 9
  have f8 := blk_frozen hI.blk 8
  obtain ⟨all, hall⟩ : ∃ all, rest ++ bytesOf b = all := ⟨_, rfl⟩
  have hal : all.length = rest.length + b.size := by rw [← hall, List.length_append, bytesOf_length]
  rw [hall]
  obtain ⟨r, hres⟩ : ∃ r, absorb (all.length + 1) st all = r := ⟨_, rfl⟩
  rw [hres]
  have HRes := Aside0.mk hres
  have HAll := Aside0.mk (And.intro hall hal)
  obtain ⟨lg', hlg⟩ : ∃ x, IntKind.u64.wrap (lg + (b.size : Int)) = x := ⟨_, rfl⟩
  rw [hlg]
  have HI := Aside0.mk hI
  have HL := Aside0.mk hL
  have HB := Aside0.mk hB
  have hlt := blk_lt hI.blk
  have HW1 : Aside0 ((w.setCell ⟨g, 9, none⟩ (.int .u64 lg')).heap[g]? = some (.cells (HCells st rv lg') 73 (0, 0)) ∧ QRow (w.setCell ⟨g, 9, none⟩ (.int .u64 lg')) w0.heap.size 5 1 rv rest.length (nums .u8 rest) ∧ Below w0.heap.size w0 (w.setCell ⟨g, 9, none⟩ (.int .u64 lg'))) :=
    ⟨blk_put hI.blk 9 _ (hs9 _ _ _ _ hI.len), q_move hI.row fun k hk => Below.heap_setCell w ⟨g, 9, none⟩ _ k (hI.ne k hk), below_set hB hI.ge⟩
  clear hI hL hB hres hall hal
  go_enter Tryd.func18, Tryd.ntmps18
  go_wp2_with (first | ((with_reducible refine gate_builtin (b := .append) (xs := #[.tmp 18, .tmp 19]) rfl ?_); at_builtin; refine print_q_str (w0 := w0) w0.heap.size rfl (.tmp 18) (.tmp 19) 32 9 5 rfl Tryd.underlying32 Tryd.underlying9 info5 rv rest b rfl rfl HW1.out.2.1 HW1.out.2.2 HW1.out.2.2.size (by omega) ?_; intro v1 w1 ho1 hB1 hg1 hat1; rw [HAll.out.1] at ho1; obtain ⟨A1, k1, rfl, hnk⟩ := q_slice ho1; have HV := Aside0.mk (write_grown HI.out HW1.out.1 hg1); have f8 := blk_frozen HV.out.1 8; have c8 := (blk_cell HV.out.1 8).trans (hc8 st rv lg' HI.out.len); have H2 := Aside0.mk (write_start HI.out HV.out ho1 hB1 hat1 HB.out.size); clear ho1 hB1 hg1 hat1 c9 f9))
  clear c8 f8 HW1 hnk
  generalize (w1.setCell ⟨g, 8, none⟩ (.slice A1 all.length k1)) = w2 at *
  go_loopg [23] (all.length + 1) (fun kq v23 w' => ∃ (rv2 : Value) (st2 xs : List Int), Aside0 (absorb kq st2 xs = r ∧ xs.length < kq ∧ xs.length ≤ 2000000000) ∧ Aside0 (IsH w0 w' g rv2 st2 xs lg' ∧ HKept w w' g rv rv2 ∧ Below w0.heap.size w0 w'))
  case atStart => exact ⟨_, st, all, ⟨HRes.out, Nat.lt_succ_self _, by have := HAll.out; omega⟩, ⟨H2.out⟩⟩
  case round =>
    obtain ⟨rv2, st2, xs, HA, HH⟩ := hrel
    clear H2
    cases gk with
    | zero => exact absurd HA.out.2.1 (by omega)
    | succ kq1 =>
      obtain ⟨hA1, hA2, hA3⟩ := HA.out
      obtain ⟨A2, k2, rfl, hk2⟩ := q_slice HH.out.1.row
      have c8 := (blk_cell HH.out.1.blk 8).trans (hc8 _ _ _ HH.out.1.len)
      have f8 := blk_frozen HH.out.1.blk 8
      unfold absorb at hA1
      by_cases q1 : 64 ≤ xs.length
      · rw [if_pos q1] at hA1
        have q1' : (64 : Int) ≤ (xs.length : Int) := by omega
        have HA1 := Aside0.mk hA1
        have HQ := Aside0.mk q1
        have hcut := fun W => cut_h A2 xs.length k2 (by omega) W
        clear hA1 q1 HA
        go_wp2_with fail
        have hg2 : 2 ≤ g := Nat.le_trans h2 HI.out.ge
        refine (block_walk g st2 (.slice A2 xs.length k2) lg' A2 k2 (xs.take 64) wr (HL.out.step HH.out.2.2 h2) hg2 HH.out.1.blk HH.out.1.len (reads64 HH.out.1.row HQ.out) (by have := HQ.out; omega) (fun ad hA => HH.out.1.ne ad.block (by rw [hA]; rfl))).mono ?_
        rintro e w3 ⟨rfl, hb3, hk3⟩
        obtain ⟨A3, hA3⟩ : ∃ A3, (if k2 = 64 then A2 else A2.map (·.add (64 * 1))) = A3 := ⟨_, rfl⟩
        have H3 := Aside0.mk (write_step HH.out hb3 hk3 HQ.out hA3)
        have hcut2 := fun W => cut_l A2 xs.length k2 HQ.out hk2 W
        rw [hA3] at hcut2
        have c8 := (blk_cell hb3 8).trans (hc8 _ _ _ (blk_len _ _ HH.out.1.len))
        have f8 := blk_frozen hb3 8
        have HA4 := Aside0.mk (And.intro hA2 hA3)
        clear hb3 hk3 hA3 hcut HH hA2
        go_wp2_with fail
        go_roundg kq1
        case measure => omega
        case rel => exact ⟨_, _, xs.drop 64, ⟨HA1.out, by rw [List.length_drop]; have := HA4.out.1; omega, by rw [List.length_drop]; omega⟩, ⟨H3.out⟩⟩
      · rw [if_neg q1] at hA1
        have q1' : (xs.length : Int) < 64 := by omega
        clear q1
        go_wp2
        go_end0
        subst hA1
        exact ⟨rfl, _, HH.out.1, HH.out.2.1, HH.out.2.2⟩
end Go.Proofs.YtdnmllodefbekaaDoor.Sha
