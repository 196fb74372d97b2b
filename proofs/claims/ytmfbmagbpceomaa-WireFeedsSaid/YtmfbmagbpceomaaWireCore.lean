import Derived.Test.YtmfbmagbpceomaaPTidNextx0
import Derived.LoopTactic
import Derived.WalkMore
import Derived.Lib.Hide
import Derived.WalkSpells
namespace Go.Proofs.Ytmfbmagbpceomaa.Wire
open Go.RowKit Go.Proofs.YtmfbmagbpceomaaW.PrintWords Go.Proofs.YtmfbmagbpceomaaW.PrintLast Go.Proofs.YtmfbmagbpceomaaW.PrintMore
set_option linter.unusedVariables false
set_option linter.unusedSimpArgs false
theorem info5 : (Try.prog.info? 5).map (fun i => (i.zero, i.size, i.bytes)) = some (some (.int .u8 0), 1, 1) := by kernel_rfl
/-- The length that four bytes tell, the highest first. -/
def be4 (a b c d : Int) : Int := Go.bits .or .u32 (Go.bits .or .u32 (Go.bits .or .u32 ((a % 4294967296 * 16777216) % 4294967296) ((b % 4294967296 * 65536) % 4294967296)) ((c % 4294967296 * 256) % 4294967296)) (d % 4294967296)
set_option maxHeartbeats 1000000 in
theorem long_short (g : Nat) (A : Option Addr) (n c m : Nat) (xs : List Int) (w : World) (hp : w.cell? ⟨g, 0, none⟩ = some (.slice A n c)) (hr : ReadsInt w .u8 A n xs) (hnc : n ≤ c) (hm : m ≤ n) (h4 : n - m < 4) (hn : n ≤ 1000000000) :
    Calls Try.prog 46 #[.pointer (some ⟨g, 0, none⟩), .int .i64 m] w fun e w' => e = .returned (.tuple #[.int .u32 0, .bool false]) ∧ Drawn0 w w' := by
  obtain ⟨i0, hi, hzz⟩ := Option.map_eq_some_iff.1 info5
  simp only [Prod.mk.injEq] at hzz
  obtain ⟨hz0, hz1, hz2⟩ := hzz
  obtain ⟨A', hcut, hA'⟩ := print_cut (P := Try.prog) 23 5 .i64 Try.underlying23 hi hz1 A n c m hm
  clear hz0 hz1 hz2 hi
  have h5 : ((n - m : Nat) : Int) < 4 := by omega
  go_enter Try.func46, Try.ntmps46
  go_wp2
  go_ret2
  exact ⟨rfl, Drawn0.refl _⟩
set_option maxHeartbeats 1000000 in
theorem long_whole (g kb n c m : Nat) (xs : List Int) (w : World) (hp : w.cell? ⟨g, 0, none⟩ = some (.slice (some ⟨kb, 0, none⟩) n c)) (hr : ∀ j : Nat, j < n → w.cell? ⟨kb, j, none⟩ = some (.int .u8 (rd xs j))) (hnc : n ≤ c) (h4 : m + 4 ≤ n) (hn : n ≤ 1000000000) :
    Calls Try.prog 46 #[.pointer (some ⟨g, 0, none⟩), .int .i64 m] w fun e w' => e = .returned (.tuple #[.int .u32 (be4 (rd xs (m : Nat)) (rd xs (m + 1 : Nat)) (rd xs (m + 2 : Nat)) (rd xs (m + 3 : Nat))), .bool true]) ∧ Drawn0 w w' := by
  obtain ⟨i0, hi, hzz⟩ := Option.map_eq_some_iff.1 info5
  simp only [Prod.mk.injEq] at hzz
  obtain ⟨hz0, hz1, hz2⟩ := hzz
  have hcut : ∀ W : World, (Instr.slice 23 (.slice (some ⟨kb, 0, none⟩) n c) (some (.int .i64 (m : Int))) none none).run Try.prog W = .ok (.slice (some ⟨kb, m, none⟩) (n - m) (c - m)) W := fun W => by
    rw [run_slice_l W 23 (some ⟨kb, 0, none⟩) n c Try.underlying23 .i64 (m : Int) (Int.natCast_nonneg _) (by omega)]
    have : ¬ c = m := by omega
    have hel : Try.prog.elem 23 = 5 := by simp [Program.elem, Try.underlying23]
    simp only [hel, sizeOf, typeInfo, hi, hz1]
    have hm : m = 0 ∨ m ≠ 0 := by omega
    rcases hm with rfl | hm <;> simp [sliced, Result.andThen, Addr.add, this, hi, hz1, *]
  have c0 := hr m (by omega)
  have c1 := hr (m + 1) (by omega)
  have c2 := hr (m + 2) (by omega)
  have c3 := hr (m + 3) (by omega)
  clear hz0 hz1 hz2 hi hr
  have h5 : ¬ ((n - m : Nat) : Int) < 4 := by omega
  have n0 : 0 < n - m := by omega
  have n1 : (1 : Int) < ((n - m : Nat) : Int) := by omega
  have n2 : (2 : Int) < ((n - m : Nat) : Int) := by omega
  have n3 : (3 : Int) < ((n - m : Nat) : Int) := by omega
  go_enter Try.func46, Try.ntmps46
  go_wp2
  go_region
  go_wp2
  go_ret2
  exact ⟨rfl, ⟨1, rfl⟩⟩

/-! ### The reader: a struct of a slice and a Bool at block g; its bytes are a row of the law's own -/
structure St (w0 W : World) (g : Nat) (kept : List Int) (bad : Bool) : Prop where
  ge : w0.heap.size ≤ g
  out : ∃ kv, W.heap[g]? = some (.cells #[kv, .bool bad] 72 (0, 0)) ∧ W.ownsRow w0.heap.size 5 1 kv kept.length (nums .u8 kept)
/-- What a call leaves as it was: all but block g and the rows of bytes. -/
def KT (w W : World) (g : Nat) : Prop := w.heap.size ≤ W.heap.size ∧ ∀ i, i < w.heap.size → i ≠ g → (∀ cs, w.heap[i]? ≠ some (.cells cs 5 (0, 0))) → W.heap[i]? = w.heap[i]?
theorem KT.refl (w : World) (g : Nat) : KT w w g := ⟨Nat.le_refl _, fun _ _ _ _ => rfl⟩
theorem KT.below {w W W1 : World} {g : Nat} (h : KT w W g) (hb : Below W.heap.size W W1) : KT w W1 g :=
  ⟨Nat.le_trans h.1 hb.size, fun i hi hg ht => (hb.block i (Nat.lt_of_lt_of_le hi h.1)).trans (h.2 i hi hg ht)⟩
theorem KT.of_below {w W : World} {g : Nat} (hb : Below w.heap.size w W) : KT w W g := (KT.refl w g).below hb
theorem KT.trans {w W W1 : World} {g : Nat} (h : KT w W g) (k : KT W W1 g) : KT w W1 g :=
  ⟨Nat.le_trans h.1 k.1, fun i hi hg ht => (k.2 i (Nat.lt_of_lt_of_le hi h.1) hg (by rw [h.2 i hi hg ht]; exact ht)).trans (h.2 i hi hg ht)⟩
theorem KT.set_ {w W : World} {g : Nat} (h : KT w W g) (j : Nat) (u : Value) : KT w (W.setCell ⟨g, j, none⟩ u) g :=
  ⟨by simpa [World.setCell] using h.1, fun i hi hg ht => (Below.heap_setCell W ⟨g, j, none⟩ u i hg).trans (h.2 i hi hg ht)⟩
/-- A row of bytes was written. -/
theorem KT.grown {w W W1 : World} {g base n size : Nat} {v : Value} {xs : List Value} (h : KT w W g) (ho : W.ownsRow base 5 size v n xs) (hg : W.grownBy W1 v.ownBlock) : KT w W1 g :=
  ⟨Nat.le_trans h.1 hg.size, fun i hi hig ht => by
    refine (hg.block i (Nat.lt_of_lt_of_le hi h.1) fun hk => ?_).trans (h.2 i hi hig ht)
    obtain ⟨cs, hc⟩ := own_typed ho i hk.symm
    exact ht cs ((h.2 i hi hig ht).symm.trans hc)⟩
/-- A row of another type lives on. -/
theorem KT.own {w W : World} {g base n size e : Nat} {v : Value} {xs : List Value} (h : KT w W g) (ho : w.ownsRow base e size v n xs) (he : e ≠ 5) {cs : Array Value} {t : Nat} (hb : w.heap[g]? = some (.cells cs t (0, 0))) (ht : e ≠ t) : W.ownsRow base e size v n xs :=
  own_move ho fun k hk => by
    obtain ⟨c, hc⟩ := own_typed ho k hk
    refine h.2 k (blk_lt hc) (fun hkg => ?_) fun c' hc' => ?_
    · subst hkg; rw [hb] at hc; injection hc with hc; injection hc with _ hc; exact ht hc.symm
    · rw [hc'] at hc; injection hc with hc; injection hc with _ hc; exact he hc.symm
/-- A block of another type stands. -/
theorem KT.blk {w W : World} {g i e : Nat} (h : KT w W g) {cs : Array Value} (hi : w.heap[i]? = some (.cells cs e (0, 0))) (he : e ≠ 5) (hg : i ≠ g) : W.heap[i]? = some (.cells cs e (0, 0)) :=
  (h.2 i (blk_lt hi) hg fun c' hc' => by rw [hc'] at hi; injection hi with hi; injection hi with _ hi; exact he hi.symm).trans hi
theorem St.below {w0 W W1 : World} {g : Nat} {kept : List Int} {bad : Bool} (h : St w0 W g kept bad) (hb : Below W.heap.size W W1) : St w0 W1 g kept bad := by
  obtain ⟨hg, kv, h1, h2⟩ := h
  exact ⟨hg, kv, blk_below h1 hb, pw_own_below h2 hb⟩
theorem St.lt {w0 W : World} {g : Nat} {kept : List Int} {bad : Bool} (h : St w0 W g kept bad) : g < W.heap.size := by
  obtain ⟨_, kv, h1, _⟩ := h
  exact blk_lt h1
end Go.Proofs.Ytmfbmagbpceomaa.Wire
