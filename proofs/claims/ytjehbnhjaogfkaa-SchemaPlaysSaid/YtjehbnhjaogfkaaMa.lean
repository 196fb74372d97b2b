/- Ma: the texts Sc10, Sc11, Sc12, Sc13, Sc14, one behind the other. -/
import Derived.Test.YtjehbnhjaogfkaaSc0
import Derived.Test.YtjehbnhjaogfkaaSc3
import Derived.Test.YtjehbnhjaogfkaaSc9
section
namespace Go.Proofs.Ytjehbnhjaogfkaa.Sc
open Go.RowKit Go.Lib Go.Proofs.YtjehbnhjaogfkaaW.PrintWords Go.Proofs.YtjehbnhjaogfkaaW.PrintLast Go.Proofs.YtjehbnhjaogfkaaW.PrintMore
open Go.Proofs.Ytjehbnhjaogfkaa
set_option linter.unusedVariables false
set_option linter.unusedSimpArgs false
/-! The bytes, plainly. -/
def bv (l : List UInt8) : List Value := l.map fun b => Value.int .u8 b.toNat
theorem bv_app (a b : List UInt8) : bv (a ++ b) = bv a ++ bv b := by simp [bv]
theorem bv_len (a : List UInt8) : (bv a).length = a.length := by simp [bv]
theorem bv_str (s : ByteArray) : strCells s = bv s.data.toList := by simp [strCells, bv]
def le : Nat → Int → List UInt8
  | 0, _ => []
  | k + 1, n => UInt8.ofNat (n % 256).toNat :: le k (n / 256)
def num8 (n : Int) : List UInt8 := le 8 n
theorem le_len (k : Nat) (n : Int) : (le k n).length = k := by
  induction k generalizing n with
  | zero => rfl
  | succ k ih => simp [le, ih]
def txt (s : ByteArray) : List UInt8 := num8 s.size ++ s.data.toList
theorem info5 : (Try.prog.info? 5).map (fun i => (i.zero, i.size, i.bytes)) = some (some (.int .u8 0), 1, 1) := by kernel_rfl
/-! The writer at block g. -/
structure Wr (base : Nat) (W : World) (g : Nat) (bs : List UInt8) (bad : Bool) : Prop where
  ge : base ≤ g
  out : ∃ kv, W.heap[g]? = some (.cells #[kv, .bool bad] 103 (0, 0)) ∧ W.ownsRow base 5 1 kv bs.length (bv bs)
/-- What a call of the writer leaves: all but block g and the rows of bytes. -/
structure KT (base g : Nat) (w W : World) : Prop where
  os : W.os = w.os
  tape : W.tape = w.tape
  output : W.output = w.output
  size : w.heap.size ≤ W.heap.size
  low : ∀ i, i < base → i < w.heap.size → W.heap[i]? = w.heap[i]?
  blk : ∀ i, i < w.heap.size → i ≠ g → (∀ cs, w.heap[i]? ≠ some (.cells cs 5 (0, 0))) → W.heap[i]? = w.heap[i]?
theorem KT.refl (base g : Nat) (w : World) : KT base g w w := ⟨rfl, rfl, rfl, Nat.le_refl _, fun _ _ _ => rfl, fun _ _ _ _ => rfl⟩
theorem KT.trans {base g : Nat} {a b c : World} (h : KT base g a b) (k : KT base g b c) : KT base g a c :=
  ⟨k.os.trans h.os, k.tape.trans h.tape, k.output.trans h.output, Nat.le_trans h.size k.size, fun i hb hi => (k.low i hb (Nat.lt_of_lt_of_le hi h.size)).trans (h.low i hb hi), fun i hi hg ht => (k.blk i (Nat.lt_of_lt_of_le hi h.size) hg (by rw [h.blk i hi hg ht]; exact ht)).trans (h.blk i hi hg ht)⟩
theorem KT.of_below {base g : Nat} {a b : World} (h : Below a.heap.size a b) : KT base g a b := ⟨h.os, h.tape, h.output, h.size, fun i _ hi => h.block i hi, fun i hi _ _ => h.block i hi⟩
theorem KT.below {base g : Nat} {a b : World} (h : KT base g a b) : Below base a b → True := fun _ => trivial
theorem KT.to_below {base g : Nat} {w0 a b : World} (h : KT base g a b) (hb : Below base w0 a) (hl : w0.heap.size ≤ base ∨ True) (hs : base ≤ a.heap.size) : Below base w0 b :=
  ⟨h.os.trans hb.os, h.tape.trans hb.tape, h.output.trans hb.output, Nat.le_trans hb.size h.size, fun k hk => (h.low k hk (Nat.lt_of_lt_of_le hk hs)).trans (hb.block k hk)⟩
/-- A block of another type stands. -/
theorem KT.cells {base g : Nat} {w W : World} {i e : Nat} (h : KT base g w W) {cs : Array Value} (hi : w.heap[i]? = some (.cells cs e (0, 0))) (he : e ≠ 5) (hg : i ≠ g) : W.heap[i]? = some (.cells cs e (0, 0)) :=
  (h.blk i (blk_lt hi) hg fun c' hc' => by rw [hc'] at hi; injection hi with hi; injection hi with _ hi; exact he hi.symm).trans hi
theorem Wr.lt {base : Nat} {W : World} {g : Nat} {bs : List UInt8} {bad : Bool} (h : Wr base W g bs bad) : g < W.heap.size := by
  obtain ⟨_, kv, h1, _⟩ := h
  exact blk_lt h1
theorem Wr.below {base : Nat} {W W1 : World} {g : Nat} {bs : List UInt8} {bad : Bool} (h : Wr base W g bs bad) (hb : Below W.heap.size W W1) : Wr base W1 g bs bad := by
  obtain ⟨hg, kv, h1, h2⟩ := h
  exact ⟨hg, kv, blk_below h1 hb, pw_own_below h2 hb⟩
/-- The bytes' cell, as the walk reads it. -/
theorem Wr.cell {base : Nat} {W : World} {g : Nat} {bs : List UInt8} {bad : Bool} (h : Wr base W g bs bad) : ∃ A c, W.cell? ⟨g, 0, none⟩ = some (.slice A bs.length c) ∧ W.cell? ⟨g, 1, none⟩ = some (.bool bad) ∧ W.frozen? ⟨g, 0, none⟩ = false ∧ W.frozen? ⟨g, 1, none⟩ = false ∧ W.ownsRow base 5 1 (.slice A bs.length c) bs.length (bv bs) := by
  obtain ⟨hg, kv, h1, h2⟩ := h
  obtain ⟨A, c, rfl⟩ : ∃ A c, kv = .slice A bs.length c := by
    rcases h2.2 with ⟨rfl, hn⟩ | ⟨g', cap, cur, rfl, -⟩
    · exact ⟨none, 0, by rw [hn]⟩
    · exact ⟨_, cap, rfl⟩
  exact ⟨A, c, (blk_cell h1 0).trans rfl, (blk_cell h1 1).trans rfl, by simp [World.frozen?, h1], by simp [World.frozen?, h1], h2⟩
theorem Wr.cellv {base : Nat} {W : World} {g : Nat} {bs : List UInt8} {bad : Bool} (h : Wr base W g bs bad) : ∃ kv, W.cell? ⟨g, 0, none⟩ = some kv ∧ W.ownsRow base 5 1 kv bs.length (bv bs) := by
  obtain ⟨hg, kv, h1, h2⟩ := h
  exact ⟨kv, (blk_cell h1 0).trans rfl, h2⟩
/-- Behind an append that was stored. -/
theorem Wr.put {base : Nat} {W w1 : World} {g : Nat} {bs news : List UInt8} {bad : Bool} {kv0 v : Value} (h : Wr base W g bs bad) (ho : W.ownsRow base 5 1 kv0 bs.length (bv bs)) (hbase : base ≤ W.heap.size) (h1 : w1.ownsRow base 5 1 v (bs ++ news).length (bv (bs ++ news))) (hg : W.grownBy w1 kv0.ownBlock) :
    Wr base (w1.setCell ⟨g, 0, none⟩ v) g (bs ++ news) bad ∧ KT base g W (w1.setCell ⟨g, 0, none⟩ v) := by
  obtain ⟨hge, kv, hb, -⟩ := h
  have hne : ∀ k, kv0.ownBlock = some k → k ≠ g := fun k hk e => by
    obtain ⟨cs, hc⟩ := own_typed ho k hk
    subst e
    rw [hb] at hc; injection hc with hc; injection hc with _ hc; exact absurd hc (by decide)
  have hb1 : w1.heap[g]? = some (.cells #[kv, .bool bad] 103 (0, 0)) := (hg.block g (blk_lt hb) fun e => hne g e.symm rfl).trans hb
  have hne1 : some g ≠ v.ownBlock := fun e => by
    obtain ⟨cs, hc⟩ := own_typed h1 g e.symm
    rw [hb1] at hc; injection hc with hc; injection hc with _ hc; exact absurd hc (by decide)
  refine ⟨⟨hge, v, blk_put hb1 0 v rfl, own_setCell h1 (p := ⟨g, 0, none⟩) hne1 v⟩, ⟨hg.os, hg.tape, hg.output, by have := hg.size; simpa [World.setCell] using this, fun i hi hl => ?_, fun i hl hig ht => ?_⟩⟩
  · refine (Below.heap_setCell w1 ⟨g, 0, none⟩ v i (by simp; omega)).trans (hg.block i hl fun e => ?_)
    have := own_base ho i e.symm
    omega
  · refine (Below.heap_setCell w1 ⟨g, 0, none⟩ v i hig).trans (hg.block i hl fun e => ?_)
    obtain ⟨cs, hc⟩ := own_typed ho i e.symm
    exact ht cs hc
theorem own_shape {w : World} {base e size n : Nat} {v : Value} {xs : List Value} (h : w.ownsRow base e size v n xs) : ∃ A c, v = .slice A n c := by
  rcases h.2 with ⟨rfl, hn⟩ | ⟨g', cap, cur, rfl, -⟩
  · exact ⟨none, 0, by rw [hn]⟩
  · exact ⟨_, cap, rfl⟩
theorem Wr.after {base : Nat} {W w1 : World} {g : Nat} {bs : List UInt8} {bad : Bool} {kv0 : Value} (h : Wr base W g bs bad) (ho : W.ownsRow base 5 1 kv0 bs.length (bv bs)) (hg : W.grownBy w1 kv0.ownBlock) : w1.cell? ⟨g, 0, none⟩ = W.cell? ⟨g, 0, none⟩ ∧ w1.frozen? ⟨g, 0, none⟩ = false := by
  obtain ⟨hge, kv, hb, -⟩ := h
  have hb1 : w1.heap[g]? = some (.cells #[kv, .bool bad] 103 (0, 0)) := (hg.block g (blk_lt hb) fun e => by
    obtain ⟨cs, hc⟩ := own_typed ho g e.symm
    rw [hb] at hc; injection hc with hc; injection hc with _ hc; exact absurd hc (by decide)).trans hb
  exact ⟨(blk_cell hb1 0).trans (blk_cell hb 0).symm, by simp [World.frozen?, hb1]⟩
theorem le_zero (n : Int) : le 0 n = [] := rfl
theorem le_succ (k : Nat) (n : Int) : le (k + 1) n = UInt8.ofNat (n % 256).toNat :: le k (n / 256) := rfl
theorem byte_val (n : Int) : Value.int .u8 (n % 256) = Value.int .u8 ((UInt8.ofNat (n % 256).toNat).toNat : Int) := by
  have h1 : 0 ≤ n % 256 := Int.emod_nonneg _ (by decide)
  have h2 : n % 256 < 256 := Int.emod_lt_of_pos _ (by decide)
  congr 1
  simp
  omega
set_option maxRecDepth 100000 in
set_option maxHeartbeats 2000000 in
theorem number_walk (base : Nat) (W : World) (g : Nat) (bs : List UInt8) (bad : Bool) (n : Int) (h : Wr base W g bs bad) (hbase : base ≤ W.heap.size) (hl : bs.length ≤ 1000000000) (hn : -9223372036854775808 ≤ n ∧ n ≤ 9223372036854775807) :
    Calls Try.prog 70 #[.pointer (some ⟨g, 0, none⟩), .int .i64 n] W fun e W' => e = .returned (.tuple #[]) ∧ Wr base W' g (bs ++ num8 n) bad ∧ KT base g W W' := by
  have H0 := Aside0.mk h
  have HN := Aside0.mk hn
  clear h hn
  go_enter Try.func70, Try.ntmps70
  go_wp2_with fail
  go_loopg [1, 4] 9 (fun kq v1 v4 w' => ∃ (i : Nat) (m : Int) (pre : List UInt8), v4 = .int .i64 (i : Int) ∧ v1 = .int .i64 m ∧ Aside0 (i + kq = 9 ∧ i ≤ 8 ∧ -9223372036854775808 ≤ m ∧ m ≤ 9223372036854775807) ∧ Aside0 (pre ++ le (8 - i) m = bs ++ num8 n ∧ pre.length = bs.length + i) ∧ Aside0 (Wr base w' g pre bad) ∧ Aside0 (KT base g W w'))
  case atStart => exact ⟨0, n, bs, rfl, rfl, ⟨by omega, by omega, HN.out⟩, ⟨rfl, rfl⟩, H0, ⟨KT.refl _ _ _⟩⟩
  case round =>
    obtain ⟨i, m, pre, rfl, rfl, HJ, HP, HWr, HK⟩ := hrel
    by_cases hj : i < 8
    · obtain ⟨kq1, rfl⟩ : ∃ kq1, gk = kq1 + 1 := ⟨gk - 1, by have := HJ.out; omega⟩
      have hji : (i : Int) < 8 := by omega
      obtain ⟨A, c, c0, c1, f0, f1, hown⟩ := HWr.out.cell
      have HO := Aside0.mk hown
      clear hown
      go_wp2_with ((with_reducible refine gate_builtin (b := .append) (xs := #[.tmp 10, .tmp 13]) rfl ?_); at_builtin; refine print_append_cells (w0 := wr) base rfl (.tmp 10) (.tmp 13) 74 5 (.int .u8 0) 1 1 rfl Try.underlying74 info5 rfl (by decide) (by decide) (.slice A pre.length c) pre.length (bv pre) [.int .u8 (m % 256)] rfl rfl rfl (by simp [Value.oneCell']) HO.out (Below.refl _ _) (Nat.le_trans hbase HK.out.size) (by have := HP.out.2; omega) ?_; intro v1 w1 ho1 hb1 hg1 hat1; obtain ⟨A1, k1, rfl⟩ := own_shape ho1; obtain ⟨y1, y2⟩ := HWr.out.after HO.out hg1; rw [c0] at y1; have HO1 := Aside0.mk ho1; have HG1 := Aside0.mk hg1; clear ho1 hb1 hg1 hat1)
      have hbv : bv pre ++ [Value.int .u8 (m % 256)] = bv (pre ++ [UInt8.ofNat (m % 256).toNat]) := by rw [bv_app, byte_val]; rfl
      have hlen : pre.length + 1 = (pre ++ [UInt8.ofNat (m % 256).toNat]).length := by simp
      have ho1 := HO1.out
      rw [hbv, hlen] at ho1
      obtain ⟨q1, q2⟩ := HWr.out.put HO.out (Nat.le_trans hbase HK.out.size) ho1 HG1.out
      rw [← hlen] at q1 q2
      have Q1 := Aside0.mk q1
      have Q2 := Aside0.mk (HK.out.trans q2)
      clear q1 q2 ho1 hbv y1 y2
      go_roundg kq1
      case measure => have := HJ.out; omega
      case rel =>
        have hJ := HJ.out
        have hP := HP.out
        refine ⟨i + 1, m / 256, pre ++ [UInt8.ofNat (m % 256).toNat], by go_num, rfl, ⟨by omega, by omega, by omega, by omega⟩, ⟨?_, by rw [← hlen]; omega⟩, Q1, Q2⟩
        rw [← hP.1, show 8 - i = (8 - (i + 1)) + 1 by omega, le_succ, List.append_assoc]; rfl
    · have hji : ¬ (i : Int) < 8 := by omega
      go_wp2_with fail
      have hJ := HJ.out
      have hP := HP.out
      obtain rfl : i = 8 := by omega
      rw [show 8 - 8 = 0 by rfl, le_zero, List.append_nil] at hP
      go_end0
      exact ⟨rfl, hP.1 ▸ HWr.out, HK.out⟩
theorem full_walk (base : Nat) (W : World) (g : Nat) (bs : List UInt8) (bad : Bool) (h : Wr base W g bs bad) (hl : bs.length ≤ 65536) :
    Calls Try.prog 88 #[.pointer (some ⟨g, 0, none⟩)] W fun e W' => e = .returned (.bool false) ∧ W' = W := by
  obtain ⟨A, c, c0, c1, f0, f1, hown⟩ := h.cell
  clear hown h
  have hz : ¬ (65536 : Int) < (bs.length : Int) := by omega
  go_enter Try.func88, Try.ntmps88
  go_wp2_with fail
  go_ret
  exact ⟨rfl, rfl⟩
set_option maxRecDepth 100000 in
set_option maxHeartbeats 2000000 in
theorem text_walk (base : Nat) (W : World) (g : Nat) (bs : List UInt8) (bad : Bool) (s : ByteArray) (h : Wr base W g bs bad) (hbase : base ≤ W.heap.size) (hl : bs.length + 8 ≤ 65536) (hs : s.size ≤ 1000000000) :
    Calls Try.prog 68 #[.pointer (some ⟨g, 0, none⟩), .string s] W fun e W' => e = .returned (.tuple #[]) ∧ Wr base W' g (bs ++ txt s) bad ∧ KT base g W W' := by
  have H0 := Aside0.mk h
  obtain ⟨b1, hb1⟩ : ∃ b1, b1 = bs ++ num8 s.size := ⟨_, rfl⟩
  have hn8 : b1.length = bs.length + 8 := by rw [hb1, List.length_append]; unfold num8; rw [le_len]
  have HB1 := Aside0.mk hb1
  have HN8 := Aside0.mk hn8
  clear h hn8 hb1
  go_enter Try.func68, Try.ntmps68
  go_wp2_with (first
    | (go_at_call 70; refine (number_walk base _ g bs bad _ H0.out hbase (by omega) (by omega)).mono ?_; rintro e w1 ⟨rfl, h1, hk1⟩; rw [← HB1.out] at h1; have H1 := Aside0.mk h1; have K1 := Aside0.mk hk1; clear h1 hk1)
    | (go_at_call 88; refine (full_walk base _ g _ bad H1.out (by rw [HN8.out]; omega)).mono ?_; rintro e w2 ⟨rfl, rfl⟩; obtain ⟨kv, c0, hown⟩ := H1.out.cellv; have HO := Aside0.mk hown; clear hown)
    | ((with_reducible refine gate_builtin (b := .append) (xs := #[.tmp 15, .tmp 16]) rfl ?_); at_builtin; obtain ⟨i0, hi, hzz⟩ := Option.map_eq_some_iff.1 info5; simp only [Prod.mk.injEq] at hzz; refine wpList_append_own_string _ rfl (.tmp 15) (.tmp 16) 74 9 rfl base 5 i0 Try.underlying74 Try.underlying9 hi hzz.1 hzz.2.1 hzz.2.2 _ _ _ rfl HO.out s rfl (by rw [HN8.out]; unfold maxLen; omega) (by rw [HN8.out]; omega) (Nat.le_trans hbase K1.out.size) ?_; clear hi hzz; intro v1 w3 ho1 hg1 hz1; obtain ⟨A1, k1, rfl⟩ := own_shape ho1; obtain ⟨y1, y2⟩ := H1.out.after HO.out hg1; rw [c0] at y1; have HO1 := Aside0.mk ho1; have HG1 := Aside0.mk hg1; clear ho1 hg1 hz1))
  have ho1 := HO1.out
  have e1 : b1.length + s.size = (b1 ++ s.data.toList).length := by rw [List.length_append]; rfl
  rw [bv_str, ← bv_app, e1] at ho1
  obtain ⟨q1, q2⟩ := H1.out.put HO.out (Nat.le_trans hbase K1.out.size) ho1 HG1.out
  rw [← e1] at q1 q2
  have e2 : b1 ++ s.data.toList = bs ++ txt s := by rw [HB1.out]; unfold txt; rw [List.append_assoc]
  rw [e2] at q1
  go_end0
  exact ⟨rfl, q1, K1.out.trans q2⟩
end Go.Proofs.Ytjehbnhjaogfkaa.Sc
end

section
namespace Go.Proofs.Ytjehbnhjaogfkaa.Sc
open Go.RowKit Go.Lib Go.Proofs.YtjehbnhjaogfkaaW.PrintWords Go.Proofs.YtjehbnhjaogfkaaW.PrintLast Go.Proofs.YtjehbnhjaogfkaaW.PrintMore
open Go.Proofs.Ytjehbnhjaogfkaa
set_option linter.unusedVariables false
set_option linter.unusedSimpArgs false
def encC (c : Col) : List UInt8 := txt c.nm ++ num8 c.kd
theorem num8_len (n : Int) : (num8 n).length = 8 := le_len 8 n
theorem txt_len (s : ByteArray) : (txt s).length = 8 + s.size := by unfold txt; rw [List.length_append, num8_len]; rfl
theorem encC_len (c : Col) : (encC c).length = 16 + c.nm.size := by unfold encC; rw [List.length_append, num8_len, txt_len]; omega
def inR (n : Int) : Prop := -9223372036854775808 ≤ n ∧ n ≤ 9223372036854775807
theorem place_walk (base : Nat) (W : World) (g : Nat) (bs : List UInt8) (bad : Bool) (n : Int) (h : Wr base W g bs bad) (hbase : base ≤ W.heap.size) (hl : bs.length ≤ 1000000000) (hn : inR n) :
    Calls Try.prog 85 #[.pointer (some ⟨g, 0, none⟩), .int .i64 n] W fun e W' => e = .returned (.tuple #[]) ∧ Wr base W' g (bs ++ num8 n) bad ∧ KT base g W W' := by
  have H0 := Aside0.mk h
  have HN := Aside0.mk hn
  clear h hn
  go_enter Try.func85, Try.ntmps85
  go_wp2_with (go_at_call 70; refine (number_walk base _ g bs bad _ H0.out hbase hl HN.out).mono ?_; rintro e w1 ⟨rfl, h1, hk1⟩; have H1 := Aside0.mk h1; have K1 := Aside0.mk hk1; clear h1 hk1)
  go_end0
  exact ⟨rfl, H1.out, K1.out⟩
set_option maxHeartbeats 1000000 in
theorem column_walk (base : Nat) (W : World) (g : Nat) (bs : List UInt8) (bad : Bool) (c : Col) (h : Wr base W g bs bad) (hbase : base ≤ W.heap.size) (hl : bs.length + 8 ≤ 65536) (hs : c.nm.size ≤ 100000) (hn : inR c.kd) :
    Calls Try.prog 66 #[.pointer (some ⟨g, 0, none⟩), .agg #[.string c.nm, .int .i64 c.kd]] W fun e W' => e = .returned (.tuple #[]) ∧ Wr base W' g (bs ++ encC c) bad ∧ KT base g W W' := by
  obtain ⟨nm, kd⟩ := c
  simp only at hs hn ⊢
  have H0 := Aside0.mk (h.below (below_alloc (Below.refl _ _) (.cells #[.string nm, .int .i64 kd] 32)))
  have K0 := Aside0.mk (KT.of_below (base := base) (g := g) (below_alloc (Below.refl _ W) (.cells #[.string nm, .int .i64 kd] 32)))
  have HN := Aside0.mk hn
  have hgl := h.lt
  have HB := Aside0.mk (heap_alloc_new W (.cells #[.string nm, .int .i64 kd] 32))
  have hbase1 : base ≤ (W.alloc (.cells #[.string nm, .int .i64 kd] 32)).heap.size := Nat.le_trans hbase K0.out.size
  clear h hn
  go_enter Try.func66, Try.ntmps66
  go_wp2_with (first
    | (go_at_call 68; refine (text_walk base _ g bs bad nm H0.out hbase1 hl (by omega)).mono ?_; rintro e w1 ⟨rfl, h1, hk1⟩; have b1 := hk1.cells HB.out (by decide) (by omega); have c1 : w1.cell? ⟨W.heap.size, 1, none⟩ = some (.int .i64 kd) := (blk_cell b1 1).trans rfl; have H1 := Aside0.mk h1; have K1 := Aside0.mk (K0.out.trans hk1); clear h1 hk1 b1)
    | (go_at_call 70; refine (number_walk base _ g _ bad _ H1.out (Nat.le_trans hbase K1.out.size) (by rw [List.length_append, txt_len]; omega) HN.out).mono ?_; rintro e w2 ⟨rfl, h2, hk2⟩; have H2 := Aside0.mk h2; have K2 := Aside0.mk (K1.out.trans hk2); clear h2 hk2))
  go_end0
  refine ⟨rfl, ?_, K2.out⟩
  have := H2.out
  rw [List.append_assoc] at this
  exact this
set_option maxHeartbeats 1000000 in
theorem flag_walk (base : Nat) (W : World) (g : Nat) (bs : List UInt8) (bad : Bool) (x : Bool) (h : Wr base W g bs bad) (hbase : base ≤ W.heap.size) (hl : bs.length ≤ 1000000000) :
    Calls Try.prog 87 #[.pointer (some ⟨g, 0, none⟩), .bool x] W fun e W' => e = .returned (.tuple #[]) ∧ Wr base W' g (bs ++ [if x then 1 else 0]) bad ∧ KT base g W W' := by
  obtain ⟨A, c, c0, c1, f0, f1, hown⟩ := h.cell
  have HO := Aside0.mk hown
  have H0 := Aside0.mk h
  clear hown h
  cases x
  all_goals (
    go_enter Try.func87, Try.ntmps87
    go_wp2_with (first
      | ((with_reducible refine gate_builtin (b := .append) (xs := #[.tmp 10, .tmp 12]) rfl ?_); at_builtin; refine print_append_cells (w0 := W) base rfl (.tmp 10) (.tmp 12) 74 5 (.int .u8 0) 1 1 rfl Try.underlying74 info5 rfl (by decide) (by decide) (.slice A bs.length c) bs.length (bv bs) [.int .u8 0] rfl rfl rfl (by simp [Value.oneCell']) HO.out (Below.refl _ _) hbase (by omega) ?_; intro v1 w1 ho1 hb1 hg1 hat1; obtain ⟨A1, k1, rfl⟩ := own_shape ho1; obtain ⟨y1, y2⟩ := H0.out.after HO.out hg1; rw [c0] at y1; have HO1 := Aside0.mk ho1; have HG1 := Aside0.mk hg1; clear ho1 hb1 hg1 hat1)
      | ((with_reducible refine gate_builtin (b := .append) (xs := #[.tmp 10, .tmp 12]) rfl ?_); at_builtin; refine print_append_cells (w0 := W) base rfl (.tmp 10) (.tmp 12) 74 5 (.int .u8 0) 1 1 rfl Try.underlying74 info5 rfl (by decide) (by decide) (.slice A bs.length c) bs.length (bv bs) [.int .u8 1] rfl rfl rfl (by simp [Value.oneCell']) HO.out (Below.refl _ _) hbase (by omega) ?_; intro v1 w1 ho1 hb1 hg1 hat1; obtain ⟨A1, k1, rfl⟩ := own_shape ho1; obtain ⟨y1, y2⟩ := H0.out.after HO.out hg1; rw [c0] at y1; have HO1 := Aside0.mk ho1; have HG1 := Aside0.mk hg1; clear ho1 hb1 hg1 hat1)))
  · have ho1 := HO1.out
    have e1 : bv bs ++ [Value.int .u8 0] = bv (bs ++ [0]) := by rw [bv_app]; rfl
    have e2 : bs.length + 1 = (bs ++ [(0 : UInt8)]).length := by simp
    rw [e1, e2] at ho1
    obtain ⟨q1, q2⟩ := H0.out.put HO.out hbase ho1 HG1.out
    rw [← e2] at q1 q2
    go_end0
    exact ⟨rfl, q1, q2⟩
  · have ho1 := HO1.out
    have e1 : bv bs ++ [Value.int .u8 1] = bv (bs ++ [1]) := by rw [bv_app]; rfl
    have e2 : bs.length + 1 = (bs ++ [(1 : UInt8)]).length := by simp
    rw [e1, e2] at ho1
    obtain ⟨q1, q2⟩ := H0.out.put HO.out hbase ho1 HG1.out
    rw [← e2] at q1 q2
    go_end0
    exact ⟨rfl, q1, q2⟩
end Go.Proofs.Ytjehbnhjaogfkaa.Sc
end

section
namespace Go.Proofs.Ytjehbnhjaogfkaa.Sc
open Go.RowKit Go.Lib Go.Proofs.YtjehbnhjaogfkaaW.PrintWords Go.Proofs.YtjehbnhjaogfkaaW.PrintLast Go.Proofs.YtjehbnhjaogfkaaW.PrintMore
open Go.Proofs.Ytjehbnhjaogfkaa
set_option linter.unusedVariables false
set_option linter.unusedSimpArgs false
def flatE {α : Type} (enc : α → List UInt8) : List α → List UInt8
  | [] => []
  | x :: r => enc x ++ flatE enc r
theorem flatE_app {α : Type} (enc : α → List UInt8) (a b : List α) : flatE enc (a ++ b) = flatE enc a ++ flatE enc b := by
  induction a with
  | nil => rfl
  | cons x r ih => simp [flatE, ih]
def encL {α : Type} (enc : α → List UInt8) (l : List α) : List UInt8 := num8 l.length ++ flatE enc l
theorem encL_len {α : Type} (enc : α → List UInt8) (l : List α) : (encL enc l).length = 8 + (flatE enc l).length := by unfold encL; rw [List.length_append, num8_len]
/-- What the first j take, and the next. -/
theorem flatE_take {α : Type} (enc : α → List UInt8) (l : List α) (j : Nat) (h : j < l.length) : flatE enc (l.take (j + 1)) = flatE enc (l.take j) ++ enc l[j] ∧ (flatE enc (l.take j)).length + (enc l[j]).length ≤ (flatE enc l).length := by
  have e1 : flatE enc (l.take (j + 1)) = flatE enc (l.take j) ++ enc l[j] := by
    rw [List.take_succ_eq_append_getElem h, flatE_app]
    simp [flatE]
  refine ⟨e1, ?_⟩
  have e2 : flatE enc l = flatE enc (l.take (j + 1)) ++ flatE enc (l.drop (j + 1)) := by rw [← flatE_app, List.take_append_drop]
  rw [e2, e1, List.length_append, List.length_append]
  omega
theorem cell_below {w W : World} {a : Addr} {v : Value} (hb : Below w.heap.size w W) (h : w.cell? a = some v) : W.cell? a = some v := by
  have hl := World.block_lt_of_cell? _ _ h
  rw [← h]
  unfold World.cell?
  rw [hb.block _ hl]
theorem Wr.flag {base : Nat} {W : World} {g : Nat} {bs : List UInt8} {bad : Bool} (h : Wr base W g bs bad) (x : Bool) : Wr base (W.setCell ⟨g, 1, none⟩ (.bool x)) g bs x ∧ KT base g W (W.setCell ⟨g, 1, none⟩ (.bool x)) := by
  obtain ⟨hge, kv, hb, ho⟩ := h
  have hne1 : some g ≠ kv.ownBlock := fun e => by
    obtain ⟨cs, hc⟩ := own_typed ho g e.symm
    rw [hb] at hc; injection hc with hc; injection hc with _ hc; exact absurd hc (by decide)
  refine ⟨⟨hge, kv, blk_put hb 1 (.bool x) rfl, own_setCell ho (p := ⟨g, 1, none⟩) hne1 _⟩, ⟨rfl, rfl, rfl, by simp [World.setCell], fun i hi hl => ?_, fun i hl hig ht => ?_⟩⟩
  · exact Below.heap_setCell W ⟨g, 1, none⟩ _ i (by simp; omega)
  · exact Below.heap_setCell W ⟨g, 1, none⟩ _ i hig
set_option maxRecDepth 100000 in
set_option maxHeartbeats 4000000 in
theorem listC_walk (w0 W : World) (g : Nat) (bs : List UInt8) (A : Option Addr) (l : List Col) (cap : Nat) (hC : kcol.C w0 A l.length l) (hcap : l.length ≤ cap) (h : Wr w0.heap.size W g bs false) (hB : Below w0.heap.size w0 W) (hl : l.length ≤ 4096) (hs : ∀ x ∈ l, x.nm.size ≤ 100000 ∧ inR x.kd) (hfit : bs.length + (encL encC l).length + 64 ≤ 65536) :
    Calls Try.prog 69 #[.pointer (some ⟨g, 0, none⟩), .slice A l.length cap, .func (.func 66) #[.pointer (some ⟨g, 0, none⟩)] #[]] W fun e W' => e = .returned (.tuple #[]) ∧ Wr w0.heap.size W' g (bs ++ encL encC l) false ∧ KT w0.heap.size g W W' := by
  have HC := Aside0.mk hC
  have HS := Aside0.mk hs
  have H0 := Aside0.mk h
  have HBB := Aside0.mk hB
  have hbs := hB.size
  have hfit2 := hfit
  rw [encL_len] at hfit2
  clear hC hs h hB hfit
  obtain ⟨b1, hb1⟩ : ∃ b1, b1 = bs ++ num8 l.length := ⟨_, rfl⟩
  have hb1l : b1.length = bs.length + 8 := by rw [hb1, List.length_append, num8_len]
  have HB1 := Aside0.mk hb1
  clear hb1
  have hz : ¬ (4096 : Int) < (l.length : Int) := by omega
  have hz2 : (l.length : Int) ≤ 4096 := by omega
  go_enter Try.func69, Try.ntmps69
  go_upto_region 1 with (go_at_call 70; refine (number_walk _ _ g bs false _ H0.out hbs (by omega) (by omega)).mono ?_; rintro e w1 ⟨rfl, h1, hk1⟩; obtain ⟨A0, c0, x0, x1, f0, f1, hown⟩ := h1.cell; have H1 := Aside0.mk h1; have K1 := Aside0.mk hk1; clear h1 hk1 hown)
  have H1b : Wr w0.heap.size w1 g b1 false := by rw [HB1.out]; exact H1.out
  obtain ⟨q1, q2⟩ := H1b.flag (decide ((4096 : Int) < (l.length : Int)))
  have hd : decide ((4096 : Int) < (l.length : Int)) = false := decide_eq_false (by omega)
  have H2 := Aside0.mk q1
  have K2 := Aside0.mk (K1.out.trans q2)
  have HD := Aside0.mk hd
  clear H1b q1 q2 hd
  go_wp2_with fail
  clear x0 x1 f0 f1 H1 K1
  generalize w1.setCell ⟨g, 1, none⟩ (.bool (decide ((4096 : Int) < (l.length : Int)))) = w2 at *
  have h2 := H2.out
  rw [HD.out] at h2
  have H2 := Aside0.mk h2
  clear h2 HD
  go_loopg [26] (l.length + 1) (fun kq v26 w' => ∃ j : Nat, v26 = .int .i64 (j : Int) ∧ Aside0 (j + kq = l.length + 1 ∧ j ≤ l.length) ∧ Aside0 (Wr w0.heap.size w' g (b1 ++ flatE encC (l.take j)) false) ∧ Aside0 (KT w0.heap.size g W w'))
  case atStart => exact ⟨0, rfl, ⟨by omega, Nat.zero_le _⟩, ⟨by simpa [flatE] using H2.out⟩, K2⟩
  case round =>
    clear H2 K2
    obtain ⟨j, rfl, HJ, HWr, HK⟩ := hrel
    by_cases hj : j < l.length
    · obtain ⟨kq1, rfl⟩ : ∃ kq1, gk = kq1 + 1 := ⟨gk - 1, by have := HJ.out; omega⟩
      have hji : (j : Int) < (l.length : Int) := by omega
      have hBr := HK.out.to_below HBB.out (.inr trivial) hbs
      obtain ⟨ad, rfl, x0, x1⟩ := col_at (Kd.C_below HC.out hBr) j hj
      have hsz := HS.out _ (List.getElem_mem hj)
      obtain ⟨e1, e2⟩ := flatE_take encC l j hj
      obtain ⟨x, hx⟩ : ∃ x, l[j] = x := ⟨_, rfl⟩
      rw [hx] at hsz x0 x1 e1 e2
      have hbl : (b1 ++ flatE encC (l.take j)).length + 8 ≤ 65536 := by rw [List.length_append]; have := encC_len x; omega
      have hrs := hBr.size
      have y1 := far_cell x1
      have HE := Aside0.mk e1
      have HSz := Aside0.mk hsz
      have HBl := Aside0.mk hbl
      have HHj := Aside0.mk hj
      have HWa := Aside0.mk (HWr.out.below (below_alloc (Below.refl wr.heap.size wr) (.cells #[.string x.nm, .int .i64 x.kd] 32)))
      have HKa := Aside0.mk (HK.out.trans (KT.of_below (base := w0.heap.size) (g := g) (below_alloc (Below.refl wr.heap.size wr) (.cells #[.string x.nm, .int .i64 x.kd] 32))))
      clear hsz e1 e2 hbl hx hj hBr
      go_wp2_with fail
      refine (column_walk w0.heap.size _ g _ false x HWa.out (by have := HKa.out.size; omega) HBl.out HSz.out.1 HSz.out.2).mono ?_
      rintro e w3 ⟨rfl, h3, hk3⟩
      have H3 := Aside0.mk h3
      have K3 := Aside0.mk (HKa.out.trans hk3)
      clear h3 hk3 x0 x1 y1
      go_wp2_with fail
      go_roundg kq1
      case measure => have := HJ.out; omega
      case rel => exact ⟨j + 1, by go_num, ⟨by have := HJ.out; omega, by have := HHj.out; omega⟩, ⟨by rw [HE.out, ← List.append_assoc]; exact H3.out⟩, K3⟩
    · have hji : ¬ (j : Int) < (l.length : Int) := by omega
      go_wp2_with fail
      have hjn : j = l.length := by have := HJ.out; omega
      subst hjn
      have h1 := HWr.out
      rw [List.take_length, HB1.out, List.append_assoc] at h1
      go_end0
      exact ⟨rfl, h1, HK.out⟩
set_option maxRecDepth 100000 in
set_option maxHeartbeats 4000000 in
theorem listN_walk (w0 W : World) (g : Nat) (bs : List UInt8) (A : Option Addr) (l : List Int) (cap : Nat) (hC : (Kd.int .i64).C w0 A l.length l) (hcap : l.length ≤ cap) (h : Wr w0.heap.size W g bs false) (hB : Below w0.heap.size w0 W) (hl : l.length ≤ 4096) (hs : ∀ x ∈ l, inR x) (hfit : bs.length + (encL num8 l).length + 64 ≤ 65536) :
    Calls Try.prog 86 #[.pointer (some ⟨g, 0, none⟩), .slice A l.length cap, .func (.func 85) #[.pointer (some ⟨g, 0, none⟩)] #[]] W fun e W' => e = .returned (.tuple #[]) ∧ Wr w0.heap.size W' g (bs ++ encL num8 l) false ∧ KT w0.heap.size g W W' := by
  have HC := Aside0.mk hC
  have HS := Aside0.mk hs
  have H0 := Aside0.mk h
  have HBB := Aside0.mk hB
  have hbs := hB.size
  have hfit2 := hfit
  rw [encL_len] at hfit2
  clear hC hs h hB hfit
  obtain ⟨b1, hb1⟩ : ∃ b1, b1 = bs ++ num8 l.length := ⟨_, rfl⟩
  have hb1l : b1.length = bs.length + 8 := by rw [hb1, List.length_append, num8_len]
  have HB1 := Aside0.mk hb1
  clear hb1
  have hz : ¬ (4096 : Int) < (l.length : Int) := by omega
  have hz2 : (l.length : Int) ≤ 4096 := by omega
  go_enter Try.func86, Try.ntmps86
  go_upto_region 1 with (go_at_call 70; refine (number_walk _ _ g bs false _ H0.out hbs (by omega) (by omega)).mono ?_; rintro e w1 ⟨rfl, h1, hk1⟩; obtain ⟨A0, c0, x0, x1, f0, f1, hown⟩ := h1.cell; have H1 := Aside0.mk h1; have K1 := Aside0.mk hk1; clear h1 hk1 hown)
  have H1b : Wr w0.heap.size w1 g b1 false := by rw [HB1.out]; exact H1.out
  obtain ⟨q1, q2⟩ := H1b.flag (decide ((4096 : Int) < (l.length : Int)))
  have hd : decide ((4096 : Int) < (l.length : Int)) = false := decide_eq_false (by omega)
  have H2 := Aside0.mk q1
  have K2 := Aside0.mk (K1.out.trans q2)
  have HD := Aside0.mk hd
  clear H1b q1 q2 hd
  go_wp2_with fail
  clear x0 x1 f0 f1 H1 K1
  generalize w1.setCell ⟨g, 1, none⟩ (.bool (decide ((4096 : Int) < (l.length : Int)))) = w2 at *
  have h2 := H2.out
  rw [HD.out] at h2
  have H2 := Aside0.mk h2
  clear h2 HD
  go_loopg [26] (l.length + 1) (fun kq v26 w' => ∃ j : Nat, v26 = .int .i64 (j : Int) ∧ Aside0 (j + kq = l.length + 1 ∧ j ≤ l.length) ∧ Aside0 (Wr w0.heap.size w' g (b1 ++ flatE num8 (l.take j)) false) ∧ Aside0 (KT w0.heap.size g W w'))
  case atStart => exact ⟨0, rfl, ⟨by omega, Nat.zero_le _⟩, ⟨by simpa [flatE] using H2.out⟩, K2⟩
  case round =>
    clear H2 K2
    obtain ⟨j, rfl, HJ, HWr, HK⟩ := hrel
    by_cases hj : j < l.length
    · obtain ⟨kq1, rfl⟩ : ∃ kq1, gk = kq1 + 1 := ⟨gk - 1, by have := HJ.out; omega⟩
      have hji : (j : Int) < (l.length : Int) := by omega
      have hBr := HK.out.to_below HBB.out (.inr trivial) hbs
      obtain ⟨ad, rfl, x0⟩ := int_at (Kd.C_below HC.out hBr) j hj
      have hsz := HS.out _ (List.getElem_mem hj)
      obtain ⟨e1, e2⟩ := flatE_take num8 l j hj
      obtain ⟨x, hx⟩ : ∃ x, l[j] = x := ⟨_, rfl⟩
      rw [hx] at hsz x0 e1 e2
      have hbl : (b1 ++ flatE num8 (l.take j)).length + 8 ≤ 65536 := by rw [List.length_append]; have := num8_len x; omega
      have hrs := hBr.size
      have HE := Aside0.mk e1
      have HSz := Aside0.mk hsz
      have HBl := Aside0.mk hbl
      have HHj := Aside0.mk hj
      have HWa := Aside0.mk HWr.out
      have HKa := Aside0.mk HK.out
      clear hsz e1 e2 hbl hx hj hBr
      go_wp2_with fail
      refine (place_walk w0.heap.size _ g _ false x HWa.out (by have := HKa.out.size; omega) (by have := HBl.out; omega) HSz.out).mono ?_
      rintro e w3 ⟨rfl, h3, hk3⟩
      have H3 := Aside0.mk h3
      have K3 := Aside0.mk (HKa.out.trans hk3)
      clear h3 hk3 x0
      go_wp2_with fail
      go_roundg kq1
      case measure => have := HJ.out; omega
      case rel => exact ⟨j + 1, by go_num, ⟨by have := HJ.out; omega, by have := HHj.out; omega⟩, ⟨by rw [HE.out, ← List.append_assoc]; exact H3.out⟩, K3⟩
    · have hji : ¬ (j : Int) < (l.length : Int) := by omega
      go_wp2_with fail
      have hjn : j = l.length := by have := HJ.out; omega
      subst hjn
      have h1 := HWr.out
      rw [List.take_length, HB1.out, List.append_assoc] at h1
      go_end0
      exact ⟨rfl, h1, HK.out⟩
def encX (x : Ix) : List UInt8 := txt x.nm ++ (encL num8 x.cols ++ [if x.uq then 1 else 0])
theorem flat8_len (l : List Int) : (flatE num8 l).length = 8 * l.length := by
  induction l with
  | nil => rfl
  | cons x r ih => rw [flatE, List.length_append, num8_len, ih, List.length_cons]; omega
theorem encX_len (x : Ix) : (encX x).length = 17 + x.nm.size + 8 * x.cols.length := by unfold encX; rw [List.length_append, List.length_append, txt_len, encL_len, flat8_len, List.length_singleton]; omega
set_option maxRecDepth 100000 in
set_option maxHeartbeats 4000000 in
theorem windex_walk (w0 W : World) (g : Nat) (bs : List UInt8) (nm : ByteArray) (uq : Bool) (B : Option Addr) (cols : List Int) (e : Nat) (hC : (Kd.int .i64).C w0 B cols.length cols) (hcap : cols.length ≤ e) (h : Wr w0.heap.size W g bs false) (hB : Below w0.heap.size w0 W) (hl : cols.length ≤ 4096) (hs : nm.size ≤ 100000) (hr : ∀ n ∈ cols, inR n) (hfit : bs.length + (encX ⟨nm, cols, uq⟩).length + 64 ≤ 65536) :
    Calls Try.prog 67 #[.pointer (some ⟨g, 0, none⟩), .agg #[.string nm, .slice B cols.length e, .bool uq]] W fun e W' => e = .returned (.tuple #[]) ∧ Wr w0.heap.size W' g (bs ++ encX ⟨nm, cols, uq⟩) false ∧ KT w0.heap.size g W W' := by
  have HC := Aside0.mk hC
  have HS := Aside0.mk hr
  have HBB := Aside0.mk hB
  have hbs := hB.size
  have hgl := h.lt
  rw [encX_len] at hfit
  simp only at hfit
  have H0 := Aside0.mk (h.below (below_alloc (Below.refl _ _) (.cells #[.string nm, .slice B cols.length e, .bool uq] 67)))
  have K0 := Aside0.mk (KT.of_below (base := w0.heap.size) (g := g) (below_alloc (Below.refl _ W) (.cells #[.string nm, .slice B cols.length e, .bool uq] 67)))
  have HB := Aside0.mk (heap_alloc_new W (.cells #[.string nm, .slice B cols.length e, .bool uq] 67))
  have hbase1 : w0.heap.size ≤ (W.alloc (.cells #[.string nm, .slice B cols.length e, .bool uq] 67)).heap.size := Nat.le_trans hbs K0.out.size
  clear hC hr hB h
  obtain ⟨b1, hb1⟩ : ∃ b1, b1 = bs ++ txt nm := ⟨_, rfl⟩
  have hb1l : b1.length = bs.length + (8 + nm.size) := by rw [hb1, List.length_append, txt_len]
  have HB1 := Aside0.mk hb1
  clear hb1
  obtain ⟨b2, hb2⟩ : ∃ b2, b2 = b1 ++ encL num8 cols := ⟨_, rfl⟩
  have hb2l : b2.length = b1.length + (8 + 8 * cols.length) := by rw [hb2, List.length_append, encL_len, flat8_len]
  have HB2 := Aside0.mk hb2
  clear hb2
  go_enter Try.func67, Try.ntmps67
  go_wp2_with (first
    | (go_at_call 68; refine (text_walk _ _ g bs false nm H0.out hbase1 (by omega) (by omega)).mono ?_; rintro e w1 ⟨rfl, h1, hk1⟩; rw [← HB1.out] at h1; have b1' := hk1.cells HB.out (by decide) (by omega); have c1 : w1.cell? ⟨W.heap.size, 1, none⟩ = some (.slice B cols.length e) := (blk_cell b1' 1).trans rfl; have H1 := Aside0.mk h1; have K1 := Aside0.mk (K0.out.trans hk1); have HBx := Aside0.mk b1'; clear h1 hk1 b1')
    | (go_at_call 86; refine (listN_walk w0 _ g b1 B cols e HC.out hcap H1.out (K1.out.to_below HBB.out (.inr trivial) hbs) hl HS.out (by rw [encL_len, flat8_len]; omega)).mono ?_; rintro e w2 ⟨rfl, h2, hk2⟩; rw [← HB2.out] at h2; have b2' := hk2.cells HBx.out (by decide) (by omega); have c2 : w2.cell? ⟨W.heap.size, 2, none⟩ = some (.bool uq) := (blk_cell b2' 2).trans rfl; have H2 := Aside0.mk h2; have K2 := Aside0.mk (K1.out.trans hk2); clear h2 hk2 b2')
    | (go_at_call 87; refine (flag_walk _ _ g b2 false uq H2.out (Nat.le_trans hbs K2.out.size) (by omega)).mono ?_; rintro e w3 ⟨rfl, h3, hk3⟩; have H3 := Aside0.mk h3; have K3 := Aside0.mk (K2.out.trans hk3); clear h3 hk3))
  go_end0
  refine ⟨rfl, ?_, K3.out⟩
  have h3 := H3.out
  rw [HB2.out, HB1.out, List.append_assoc, List.append_assoc] at h3
  exact h3
set_option maxRecDepth 100000 in
set_option maxHeartbeats 4000000 in
theorem listX_walk (w0 W : World) (g : Nat) (bs : List UInt8) (A : Option Addr) (l : List Ix) (cap : Nat) (hC : kix.C w0 A l.length l) (hcap : l.length ≤ cap) (h : Wr w0.heap.size W g bs false) (hB : Below w0.heap.size w0 W) (hl : l.length ≤ 4096) (hs : ∀ x ∈ l, x.nm.size ≤ 100000 ∧ x.cols.length ≤ 4096 ∧ ∀ n ∈ x.cols, inR n) (hfit : bs.length + (encL encX l).length + 64 ≤ 65536) :
    Calls Try.prog 71 #[.pointer (some ⟨g, 0, none⟩), .slice A l.length cap, .func (.func 67) #[.pointer (some ⟨g, 0, none⟩)] #[]] W fun e W' => e = .returned (.tuple #[]) ∧ Wr w0.heap.size W' g (bs ++ encL encX l) false ∧ KT w0.heap.size g W W' := by
  have HC := Aside0.mk hC
  have HS := Aside0.mk hs
  have H0 := Aside0.mk h
  have HBB := Aside0.mk hB
  have hbs := hB.size
  have hfit2 := hfit
  rw [encL_len] at hfit2
  clear hC hs h hB hfit
  obtain ⟨b1, hb1⟩ : ∃ b1, b1 = bs ++ num8 l.length := ⟨_, rfl⟩
  have hb1l : b1.length = bs.length + 8 := by rw [hb1, List.length_append, num8_len]
  have HB1 := Aside0.mk hb1
  clear hb1
  have hz : ¬ (4096 : Int) < (l.length : Int) := by omega
  have hz2 : (l.length : Int) ≤ 4096 := by omega
  go_enter Try.func71, Try.ntmps71
  go_upto_region 1 with (go_at_call 70; refine (number_walk _ _ g bs false _ H0.out hbs (by omega) (by omega)).mono ?_; rintro e w1 ⟨rfl, h1, hk1⟩; obtain ⟨A0, c0, x0, x1, f0, f1, hown⟩ := h1.cell; have H1 := Aside0.mk h1; have K1 := Aside0.mk hk1; clear h1 hk1 hown)
  have H1b : Wr w0.heap.size w1 g b1 false := by rw [HB1.out]; exact H1.out
  obtain ⟨q1, q2⟩ := H1b.flag (decide ((4096 : Int) < (l.length : Int)))
  have hd : decide ((4096 : Int) < (l.length : Int)) = false := decide_eq_false (by omega)
  have H2 := Aside0.mk q1
  have K2 := Aside0.mk (K1.out.trans q2)
  have HD := Aside0.mk hd
  clear H1b q1 q2 hd
  go_wp2_with fail
  clear x0 x1 f0 f1 H1 K1
  generalize w1.setCell ⟨g, 1, none⟩ (.bool (decide ((4096 : Int) < (l.length : Int)))) = w2 at *
  have h2 := H2.out
  rw [HD.out] at h2
  have H2 := Aside0.mk h2
  clear h2 HD
  go_loopg [26] (l.length + 1) (fun kq v26 w' => ∃ j : Nat, v26 = .int .i64 (j : Int) ∧ Aside0 (j + kq = l.length + 1 ∧ j ≤ l.length) ∧ Aside0 (Wr w0.heap.size w' g (b1 ++ flatE encX (l.take j)) false) ∧ Aside0 (KT w0.heap.size g W w'))
  case atStart => exact ⟨0, rfl, ⟨by omega, Nat.zero_le _⟩, ⟨by simpa [flatE] using H2.out⟩, K2⟩
  case round =>
    clear H2 K2
    obtain ⟨j, rfl, HJ, HWr, HK⟩ := hrel
    by_cases hj : j < l.length
    · obtain ⟨kq1, rfl⟩ : ∃ kq1, gk = kq1 + 1 := ⟨gk - 1, by have := HJ.out; omega⟩
      have hji : (j : Int) < (l.length : Int) := by omega
      have hBr := HK.out.to_below HBB.out (.inr trivial) hbs
      obtain ⟨ad, B, e, rfl, x0, x1, x2, hle, hC⟩ := ix_at HC.out j hj
      replace x0 := cell_below hBr x0
      replace x1 := cell_below hBr x1
      replace x2 := cell_below hBr x2
      have hsz := HS.out _ (List.getElem_mem hj)
      obtain ⟨e1, e2⟩ := flatE_take encX l j hj
      obtain ⟨x, hx⟩ : ∃ x, l[j] = x := ⟨_, rfl⟩
      rw [hx] at hsz x0 x1 x2 e1 e2 hle hC
      have hbl : (b1 ++ flatE encX (l.take j)).length + (encX x).length + 64 ≤ 65536 := by rw [List.length_append]; omega
      have hrs := hBr.size
      have y1 := far_cell x1
      have y2 := far_cell x2
      have HCx := Aside0.mk hC
      have HE := Aside0.mk e1
      have HSz := Aside0.mk hsz
      have HBl := Aside0.mk hbl
      have HHj := Aside0.mk hj
      have HWa := Aside0.mk (HWr.out.below (below_alloc (Below.refl wr.heap.size wr) (.cells #[.string x.nm, .slice B x.cols.length e, .bool x.uq] 67)))
      have HKa := Aside0.mk (HK.out.trans (KT.of_below (base := w0.heap.size) (g := g) (below_alloc (Below.refl wr.heap.size wr) (.cells #[.string x.nm, .slice B x.cols.length e, .bool x.uq] 67))))
      have HLe := Aside0.mk hle
      clear hsz e1 e2 hbl hx hj hBr hC hle
      go_wp2_with fail
      refine (windex_walk w0 _ g _ x.nm x.uq B x.cols e HCx.out HLe.out HWa.out (HKa.out.to_below HBB.out (.inr trivial) hbs) HSz.out.2.1 HSz.out.1 HSz.out.2.2 HBl.out).mono ?_
      rintro e w3 ⟨rfl, h3, hk3⟩
      have H3 := Aside0.mk h3
      have K3 := Aside0.mk (HKa.out.trans hk3)
      clear h3 hk3 x0 x1 y1 x2 y2
      go_wp2_with fail
      go_roundg kq1
      case measure => have := HJ.out; omega
      case rel => exact ⟨j + 1, by go_num, ⟨by have := HJ.out; omega, by have := HHj.out; omega⟩, ⟨by rw [HE.out, ← List.append_assoc]; exact H3.out⟩, K3⟩
    · have hji : ¬ (j : Int) < (l.length : Int) := by omega
      go_wp2_with fail
      have hjn : j = l.length := by have := HJ.out; omega
      subst hjn
      have h1 := HWr.out
      rw [List.take_length, HB1.out, List.append_assoc] at h1
      go_end0
      exact ⟨rfl, h1, HK.out⟩
end Go.Proofs.Ytjehbnhjaogfkaa.Sc
end

section
namespace Go.Proofs.Ytjehbnhjaogfkaa.Sc
open Go.RowKit Go.Lib Go.Proofs.YtjehbnhjaogfkaaW.PrintWords Go.Proofs.YtjehbnhjaogfkaaW.PrintLast Go.Proofs.YtjehbnhjaogfkaaW.PrintMore
open Go.Proofs.Ytjehbnhjaogfkaa
set_option linter.unusedVariables false
set_option linter.unusedSimpArgs false
def encT (t : Tb) : List UInt8 := txt t.nm ++ (encL encC t.cols ++ (num8 t.key ++ encL encX t.ixs))
/-- May be told: sizes. -/
structure Small (t : Tb) : Prop where
  nm : t.nm.size ≤ 100000
  key : inR t.key
  cl : t.cols.length ≤ 4096
  il : t.ixs.length ≤ 4096
  cols : ∀ x ∈ t.cols, x.nm.size ≤ 100000 ∧ inR x.kd
  ixs : ∀ x ∈ t.ixs, x.nm.size ≤ 100000 ∧ x.cols.length ≤ 4096 ∧ ∀ n ∈ x.cols, inR n
theorem encT_len (t : Tb) : (encT t).length = 8 + t.nm.size + (8 + (flatE encC t.cols).length) + 8 + (8 + (flatE encX t.ixs).length) := by
  unfold encT; rw [List.length_append, List.length_append, List.length_append, txt_len, num8_len, encL_len, encL_len]; omega
set_option maxRecDepth 100000 in
set_option maxHeartbeats 4000000 in
theorem table_walk (w0 W : World) (g : Nat) (bs : List UInt8) (t : Tb) (A : Option Addr) (ca : Nat) (B : Option Addr) (cb : Nat) (hA : kcol.C w0 A t.cols.length t.cols) (hca : t.cols.length ≤ ca) (hB : kix.C w0 B t.ixs.length t.ixs) (hcb : t.ixs.length ≤ cb) (hS : Small t)
    (h : Wr w0.heap.size W g bs false) (hW : Below w0.heap.size w0 W) (hfit : bs.length + (encT t).length + 200 ≤ 65536) :
    Calls Try.prog 49 #[.pointer (some ⟨g, 0, none⟩), .agg #[.string t.nm, .slice A t.cols.length ca, .int .i64 t.key, .slice B t.ixs.length cb]] W fun e W' => e = .returned (.tuple #[]) ∧ Wr w0.heap.size W' g (bs ++ encT t) false ∧ KT w0.heap.size g W W' := by
  rw [encT_len] at hfit
  obtain ⟨nm, cols, key, ixs⟩ := t
  simp only at hA hca hB hcb hfit ⊢
  have HA := Aside0.mk hA
  have HB := Aside0.mk hB
  have HBB := Aside0.mk hW
  have hbs := hW.size
  have hgl := h.lt
  obtain ⟨s1, s2, s3, s4, s5, s6⟩ := hS
  simp only at s1 s2 s3 s4 s5 s6
  have S2 := Aside0.mk s2
  have S5 := Aside0.mk s5
  have S6 := Aside0.mk s6
  have H0 := Aside0.mk (h.below (below_alloc (Below.refl _ _) (.cells #[.string nm, .slice A cols.length ca, .int .i64 key, .slice B ixs.length cb] 30)))
  have K0 := Aside0.mk (KT.of_below (base := w0.heap.size) (g := g) (below_alloc (Below.refl _ W) (.cells #[.string nm, .slice A cols.length ca, .int .i64 key, .slice B ixs.length cb] 30)))
  have HX := Aside0.mk (heap_alloc_new W (.cells #[.string nm, .slice A cols.length ca, .int .i64 key, .slice B ixs.length cb] 30))
  have hbase1 : w0.heap.size ≤ (W.alloc (.cells #[.string nm, .slice A cols.length ca, .int .i64 key, .slice B ixs.length cb] 30)).heap.size := Nat.le_trans hbs K0.out.size
  clear hA hB h hW s2 s5 s6
  obtain ⟨b1, hb1⟩ : ∃ b1, b1 = bs ++ txt nm := ⟨_, rfl⟩
  have hb1l : b1.length = bs.length + (8 + nm.size) := by rw [hb1, List.length_append, txt_len]
  have HB1 := Aside0.mk hb1
  clear hb1
  obtain ⟨b2, hb2⟩ : ∃ b2, b2 = b1 ++ encL encC cols := ⟨_, rfl⟩
  have hb2l : b2.length = b1.length + (8 + (flatE encC cols).length) := by rw [hb2, List.length_append, encL_len]
  have HB2 := Aside0.mk hb2
  clear hb2
  obtain ⟨b3, hb3⟩ : ∃ b3, b3 = b2 ++ num8 key := ⟨_, rfl⟩
  have hb3l : b3.length = b2.length + 8 := by rw [hb3, List.length_append, num8_len]
  have HB3 := Aside0.mk hb3
  clear hb3
  go_enter Try.func49, Try.ntmps49
  go_wp2_with (first
    | (go_at_call 68; refine (text_walk _ _ g bs false nm H0.out hbase1 (by omega) (by omega)).mono ?_; rintro e w1 ⟨rfl, h1, hk1⟩; rw [← HB1.out] at h1; have b1' := hk1.cells HX.out (by decide) (by omega); have c1 : w1.cell? ⟨W.heap.size, 1, none⟩ = some (.slice A cols.length ca) := (blk_cell b1' 1).trans rfl; have H1 := Aside0.mk h1; have K1 := Aside0.mk (K0.out.trans hk1); have HX1 := Aside0.mk b1'; clear h1 hk1 b1')
    | (go_at_call 69; refine (listC_walk w0 _ g b1 A cols ca HA.out hca H1.out (K1.out.to_below HBB.out (.inr trivial) hbs) s3 S5.out (by rw [encL_len]; omega)).mono ?_; rintro e w2 ⟨rfl, h2, hk2⟩; rw [← HB2.out] at h2; have b2' := hk2.cells HX1.out (by decide) (by omega); have c2 : w2.cell? ⟨W.heap.size, 2, none⟩ = some (.int .i64 key) := (blk_cell b2' 2).trans rfl; have H2 := Aside0.mk h2; have K2 := Aside0.mk (K1.out.trans hk2); have HX2 := Aside0.mk b2'; clear h2 hk2 b2')
    | (go_at_call 70; refine (number_walk _ _ g b2 false key H2.out (Nat.le_trans hbs K2.out.size) (by omega) S2.out).mono ?_; rintro e w3 ⟨rfl, h3, hk3⟩; rw [← HB3.out] at h3; have b3' := hk3.cells HX2.out (by decide) (by omega); have c3 : w3.cell? ⟨W.heap.size, 3, none⟩ = some (.slice B ixs.length cb) := (blk_cell b3' 3).trans rfl; have H3 := Aside0.mk h3; have K3 := Aside0.mk (K2.out.trans hk3); clear h3 hk3 b3')
    | (go_at_call 71; refine (listX_walk w0 _ g b3 B ixs cb HB.out hcb H3.out (K3.out.to_below HBB.out (.inr trivial) hbs) s4 S6.out (by rw [encL_len]; omega)).mono ?_; rintro e w4 ⟨rfl, h4, hk4⟩; have H4 := Aside0.mk h4; have K4 := Aside0.mk (K3.out.trans hk4); clear h4 hk4))
  go_end0
  refine ⟨rfl, ?_, K4.out⟩
  have h4 := H4.out
  rw [HB3.out, HB2.out, HB1.out, List.append_assoc, List.append_assoc, List.append_assoc] at h4
  exact h4
set_option maxRecDepth 100000 in
set_option maxHeartbeats 4000000 in
theorem putTable_walk (base : Nat) (W : World) (v : Value) (pre : List UInt8) (t : Tb) (A : Option Addr) (ca : Nat) (B : Option Addr) (cb : Nat) (hA : kcol.C W A t.cols.length t.cols) (hca : t.cols.length ≤ ca) (hB : kix.C W B t.ixs.length t.ixs) (hcb : t.ixs.length ≤ cb) (hS : Small t) (hfit : (encT t).length + 200 ≤ 65536)
    (hv : W.ownsRow base 5 1 v pre.length (bv pre)) (hbase : base ≤ W.heap.size) (hl : pre.length ≤ 1000000000) :
    Calls Try.prog 29 #[v, .agg #[.string t.nm, .slice A t.cols.length ca, .int .i64 t.key, .slice B t.ixs.length cb]] W fun e W' => ∃ v', e = .returned v' ∧ W'.ownsRow base 5 1 v' (pre ++ encT t).length (bv (pre ++ encT t)) ∧ Below base W W' ∧ Fr (fun k => v.ownBlock = some k) W W' := by
  have HA := Aside0.mk hA
  have HB := Aside0.mk hB
  have HV := Aside0.mk hv
  have HS := Aside0.mk hS
  clear hA hB hv hS
  go_enter Try.func29, Try.ntmps29
  go_wp2_with fail
  have hW2 : Below W.heap.size W ((W.alloc (.cells #[.string t.nm, .slice A t.cols.length ca, .int .i64 t.key, .slice B t.ixs.length cb] 30)).alloc (.cells #[.slice none 0 0, .bool false] 103)) := below_alloc (below_alloc (Below.refl _ _) _) _
  have hWr : Wr W.heap.size ((W.alloc (.cells #[.string t.nm, .slice A t.cols.length ca, .int .i64 t.key, .slice B t.ixs.length cb] 30)).alloc (.cells #[.slice none 0 0, .bool false] 103)) (W.heap.size + 1) [] false := by
    refine ⟨Nat.le_succ _, .slice none 0 0, ?_, World.ownsRow_nil _ _ _ _⟩
    have h := heap_alloc_new (W.alloc (.cells #[.string t.nm, .slice A t.cols.length ca, .int .i64 t.key, .slice B t.ixs.length cb] 30)) (.cells #[.slice none 0 0, .bool false] 103)
    have e : (W.alloc (.cells #[.string t.nm, .slice A t.cols.length ca, .int .i64 t.key, .slice B t.ixs.length cb] 30)).heap.size = W.heap.size + 1 := by simp [World.alloc_eq]
    rw [e] at h
    exact h
  refine (table_walk W _ (W.heap.size + 1) [] t A ca B cb HA.out hca HB.out hcb HS.out hWr hW2 (by simp only [List.length_nil]; omega)).mono ?_
  rintro e w3 ⟨rfl, h3, hk3⟩
  rw [List.nil_append] at h3
  have hB3 := hk3.to_below hW2 (.inr trivial) hW2.size
  clear hWr hW2 hk3
  obtain ⟨kv, c0, hown⟩ := h3.cellv
  have hlen := encT_len t
  rcases hown.2 with ⟨-, hn⟩ | ⟨g', cap, cur, rfl, hg', -⟩
  · omega
  have HO := Aside0.mk hown
  have HV3 := Aside0.mk (pw_own_below HV.out hB3)
  have HB3 := Aside0.mk hB3
  have hbase3 : base ≤ w3.heap.size := Nat.le_trans hbase hB3.size
  have HN1 := Aside0.mk (show ∀ j u, (bv (encT t))[j]? = some u → w3.cell? ((⟨g', 0, none⟩ : Addr).add j) = some u from fun j u hu => hown.cells (g := g') rfl j u hu)
  have HL1 := Aside0.mk (show (bv (encT t)).length = (encT t).length * 1 from by rw [bv_len, Nat.mul_one])
  have HC1 := Aside0.mk (show ∀ u ∈ bv (encT t), u.oneCell' = true from fun u hu => by obtain ⟨b, -, rfl⟩ := List.mem_map.1 hu; rfl)
  obtain ⟨i0, hi, hzz⟩ := Option.map_eq_some_iff.1 info5
  simp only [Prod.mk.injEq] at hzz
  have HI := Aside0.mk hi
  have HZ := Aside0.mk hzz
  clear hown h3 hB3 hlen hi hzz
  go_wp2_with ((with_reducible refine gate_builtin (b := .append) (xs := #[.tmp 11, .tmp 15]) rfl ?_); at_builtin; (refine wpList_append_own _ rfl (.tmp 11) (.tmp 15) 74 rfl base 5 i0 (.int .u8 0) 1 1 Try.underlying74 HI.out HZ.out.1 HZ.out.2.1 HZ.out.2.2 rfl (by decide) v pre.length (bv pre) rfl HV3.out ⟨g', 0, none⟩ (encT t).length cap (bv (encT t)) rfl HL1.out HN1.out HC1.out (by unfold maxLen; omega) (by omega) hbase3 ?_); intro v1 w4 ho1 hg1 hz1; have HO1 := Aside0.mk ho1; have HG1 := Aside0.mk hg1; clear ho1 hg1 hz1)
  have ho1 := HO1.out
  rw [← bv_app, ← List.length_append] at ho1
  go_ret
  exact ⟨v1, rfl, ho1, (HB3.out.mono hbase).grown HG1.out hbase3 fun k hk => own_base HV3.out k hk, HG1.out.os.trans HB3.out.os, HG1.out.tape.trans HB3.out.tape, HG1.out.output.trans HB3.out.output, Nat.le_trans HB3.out.size HG1.out.size, fun k hk hn => (HG1.out.block k (Nat.lt_of_lt_of_le hk HB3.out.size) fun e => hn e.symm).trans (HB3.out.block k hk)⟩
end Go.Proofs.Ytjehbnhjaogfkaa.Sc
end

section
namespace Go.Proofs.Ytjehbnhjaogfkaa.Sc
open Go.RowKit Go.Lib Go.Proofs.YtjehbnhjaogfkaaW.PrintWords Go.Proofs.YtjehbnhjaogfkaaW.PrintLast Go.Proofs.YtjehbnhjaogfkaaW.PrintMore
open Go.Proofs.Ytjehbnhjaogfkaa
set_option linter.unusedVariables false
set_option linter.unusedSimpArgs false
theorem flatE_le {α : Type} (enc : α → List UInt8) (k : Nat) (l : List α) (h : ∀ x ∈ l, (enc x).length ≤ k) : (flatE enc l).length ≤ k * l.length := by
  induction l with
  | nil => simp [flatE]
  | cons x r ih =>
    have h1 := h x (List.mem_cons_self ..)
    have h2 := ih fun y hy => h y (List.mem_cons_of_mem _ hy)
    rw [flatE, List.length_append, List.length_cons, Nat.mul_succ]
    omega
theorem dist_ok {seen : List (List UInt8)} {l : List ByteArray} (h : dist seen l = true) : ∀ s ∈ l, nmOk s = true := by
  induction l generalizing seen with
  | nil => simp
  | cons x r ih =>
    intro s hs
    rw [dist_cons] at h
    split at h
    next hx =>
      rcases List.mem_cons.1 hs with rfl | hs
      · rw [Bool.and_eq_true] at hx; exact hx.1
      · exact ih h s hs
    next => cases h
theorem nmOk_size {s : ByteArray} (h : nmOk s = true) : s.size ≤ 32 := by
  unfold nmOk at h
  simp only [Bool.and_eq_true, decide_eq_true_eq] at h
  exact h.1.2
theorem chk_small {t : Tb} (h : chk t = true) : Small t ∧ (encT t).length ≤ 5000 := by
  obtain ⟨b1, b2, b3, b4⟩ := chk_bounds h
  have h' := h
  unfold chk ck2 ck1 ins at h
  simp only [Bool.and_eq_true, decide_eq_true_eq, List.all_eq_true] at h
  obtain ⟨⟨⟨⟨⟨⟨⟨_, h1⟩, h2⟩, _⟩, h3⟩, h4⟩, h5⟩, h6⟩ := h
  have hc : ∀ x ∈ t.cols, x.nm.size ≤ 32 := fun x hx => nmOk_size (dist_ok h3 _ (List.mem_map_of_mem hx))
  have hx : ∀ x ∈ t.ixs, x.nm.size ≤ 32 := fun x hx => nmOk_size (dist_ok h4 _ (List.mem_map_of_mem hx))
  have hk : ∀ x ∈ t.cols, inR x.kd := fun x hx => by
    have := h5 x hx
    unfold colOk ins at this
    simp only [Bool.and_eq_true, decide_eq_true_eq] at this
    unfold inR; omega
  have hi : ∀ x ∈ t.ixs, ∀ n ∈ x.cols, inR n := fun x hx n hn => by
    have := h6 x hx
    unfold ixOk ins at this
    simp only [Bool.and_eq_true, decide_eq_true_eq, List.all_eq_true] at this
    have := this.2 n hn
    unfold inR; omega
  refine ⟨⟨by omega, by unfold inR; omega, by omega, by omega, fun x h => ⟨by have := hc x h; omega, hk x h⟩, fun x h => ⟨by have := hx x h; omega, by have := b4 x h; omega, hi x h⟩⟩, ?_⟩
  rw [encT_len]
  have e1 := flatE_le encC 48 t.cols fun x h => by rw [encC_len]; have := hc x h; omega
  have e2 := flatE_le encX 305 t.ixs fun x h => by rw [encX_len]; have := hx x h; have := b4 x h; omega
  omega
/-- The schemas of a catalogue, in their names' order. -/
def tbs (M : CatM) : List Tb := M.map (·.2.2)
def encM (M : CatM) : List UInt8 := flatE encT (tbs M)
theorem IsCat.len_enc {ok : Nat → Prop} {W : World} {g b : Nat} {M : CatM} (h : IsCat ok W g b M) : ∀ x ∈ tbs M, chk x = true := fun x hx => by
  obtain ⟨p, hp, rfl⟩ := List.mem_map.1 hx
  exact (h.tb p hp).2.1
theorem conv_own {base : Nat} {W : World} {v : Value} {l : List UInt8} (h : W.ownsRow base 5 1 v l.length (bv l)) : (convert 74 9 v).run Try.prog W = .ok (.string ⟨l.toArray⟩) W := by
  rcases h.2 with ⟨rfl, hn⟩ | ⟨g', cap, cur, rfl, -⟩
  · obtain rfl : l = [] := List.length_eq_zero_iff.1 hn
    rw [run_convert_bytes_string W 74 9 5 none 0 0 Try.underlying74 Try.underlying5 Try.underlying9]
    simp [Conv.bytesToString]
    rfl
  · exact run_convert_bytes_back W 74 9 5 ⟨g', 0, none⟩ cap l Try.underlying74 Try.underlying5 Try.underlying9 fun j hj => by
      refine h.cells (g := g') rfl j _ ?_
      simp [bv, hj]
theorem conv_run {P : Program} {w : World} {o : Oper} {a : Act} {x : Operand} {s t : TypeId} {v y : Value} (ho : o.op = .convert s t x) (hx : a.eval x = v) (h : (convert s t v).run P w = .ok y w) : (execOp a.eval o).run P w = .ok (.value y) w := by
  simp [execOp, ho, hx, h, Result.andThen]
/-- What Encode tells. -/
def encR (M : CatM) : ByteArray × Int := if 262144 < (encM M).length then (⟨#[]⟩, 2) else (⟨(encM M).toArray⟩, 0)
theorem get_at {V : Type} {m : FM.T V} (hs : FL.St m) {j : Nat} (h : j < m.length) : FM.get m (m[j]).1 = some (m[j]).2 := by
  obtain ⟨u, hu, hm⟩ := FM.get_of_mem (show ((m[j]).1, (m[j]).2) ∈ m from List.getElem_mem h)
  rw [hu]
  obtain ⟨i, hi, he⟩ := List.getElem_of_mem hm
  have hk : (m[i]).1 = (m[j]).1 := by rw [he]
  have hij : i = j := by
    have hp := hs.nd
    unfold FL.Nd FM.keys at hp
    have hq : ∀ (a c : Nat) (ha : a < m.length) (hc : c < m.length), a < c → (m[a]).1 ≠ (m[c]).1 := fun a c ha hc hac => by
      have h1 := List.pairwise_iff_getElem.1 hp a c (by rw [List.length_map]; exact ha) (by rw [List.length_map]; exact hc) hac
      rw [List.getElem_map, List.getElem_map] at h1
      exact h1
    rcases Nat.lt_trichotomy i j with h1 | h1 | h1
    · exact absurd hk (hq i j hi h h1)
    · exact h1
    · exact absurd hk.symm (hq j i h hi h1)
  subst hij
  rw [he]
theorem nameL_at {V : Type} {m : FM.T V} (hs : FL.St m) : nameL m = m.map fun p => ⟨p.1.toArray⟩ := by
  unfold nameL
  rw [FL.names_keys hs]
  unfold FM.keys
  rw [List.map_map]; rfl
set_option maxRecDepth 100000 in
set_option maxHeartbeats 4000000 in
theorem encode_walk (ok : Nat → Prop) (W : World) (g b : Nat) (M : CatM) (h : IsCat ok W g b M) :
    Calls Try.prog 11 #[.pointer (some ⟨g, 0, none⟩)] W fun e W' => e = .returned (.tuple #[.string (encR M).1, .int .i64 (encR M).2]) ∧ Below W.heap.size W W' := by
  obtain ⟨R, hR0⟩ : ∃ R, encR M = R := ⟨_, rfl⟩
  have HR0 := Aside0.mk hR0
  rw [hR0]
  have HI := Aside0.mk h
  have c0 := h.cell
  have hlen := h.len
  clear h hR0
  go_enter Try.func11, Try.ntmps11
  go_upto_region 3 with (go_at_call 13; refine (names_walk ok _ g b M HI.out).mono ?_; rintro e w1 ⟨v, rfl, hrow, hb1⟩; rw [nameL_at HI.out.st] at hrow; simp only [List.length_map, List.map_map] at hrow; obtain ⟨A, c, rfl⟩ := own_shape hrow; have HR1 := Aside0.mk hrow; have HB1 := Aside0.mk hb1; clear hrow hb1)
  go_loopg [4, 10] (M.length + 1) (fun kq v4 v10 w' => ∃ j : Nat, v10 = .int .i64 (j : Int) ∧ Aside0 (j + kq = M.length + 1 ∧ j ≤ M.length) ∧ Aside0 (w'.ownsRow W.heap.size 5 1 v4 (flatE encT ((tbs M).take j)).length (bv (flatE encT ((tbs M).take j)))) ∧ Aside0 (w'.ownsRow W.heap.size 9 1 (.slice A M.length c) M.length (M.map (Value.string ∘ fun p => ⟨p.1.toArray⟩))) ∧ Aside0 (Below W.heap.size W w'))
  case atStart => exact ⟨0, rfl, ⟨by omega, Nat.zero_le _⟩, ⟨World.ownsRow_nil _ _ _ _⟩, HR1, HB1⟩
  case round =>
    clear HR1 HB1
    obtain ⟨j, rfl, HJ, HV, HR, HB⟩ := hrel
    have hbr := HB.out.size
    by_cases hj : j < M.length
    · obtain ⟨kq1, rfl⟩ : ∃ kq1, gk = kq1 + 1 := ⟨gk - 1, by have := HJ.out; omega⟩
      have hji : (j : Int) < (M.length : Int) := by omega
      have hr := HR.out
      rcases hr.2 with ⟨-, hn⟩ | ⟨gn, cap, cur, he, -⟩
      · omega
      obtain ⟨rfl, -, rfl⟩ := Value.slice.inj he
      have x0 : wr.cell? ((⟨gn, 0, none⟩ : Addr).add j) = some (.string ⟨(M[j]).1.toArray⟩) := hr.cells (g := gn) rfl j _ (by rw [List.getElem?_map, List.getElem?_eq_getElem hj]; rfl)
      have hI := HI.out.below HB.out
      have htb := hI.tb _ (List.getElem_mem hj)
      have hgm := get_at hI.st hj
      obtain ⟨p, hp⟩ : ∃ p, M[j] = p := ⟨_, rfl⟩
      have hft := flatE_take encT (tbs M) j (by unfold tbs; rw [List.length_map]; exact hj)
      have hen := flatE_le encT 5000 (tbs M) fun x hx => (chk_small (hI.len_enc x hx)).2
      have hpt : (tbs M)[j]'(by unfold tbs; rw [List.length_map]; exact hj) = p.2.2 := by unfold tbs; rw [List.getElem_map, hp]
      rw [hpt] at hft
      rw [hp] at x0 htb hgm
      obtain ⟨A', ca', B', cb', e, hca, hC, hcb, hC2⟩ := htb.2.2.reads
      obtain ⟨hsm, hel⟩ := chk_small htb.2.1
      have hk : (⟨p.1.toArray⟩ : ByteArray) = p.2.2.nm := by rw [htb.1]
      have hks : p.2.2.nm.size ≤ maxLen := by have := (chk_bounds htb.2.1).1; unfold maxLen; omega
      have hr := lookV_run b (mapV (·.1) M) hI.own p.2.2.nm hks
      rw [mapV_get, ← htb.1, hgm] at hr
      simp only [Option.map_some, Option.getD_some] at hr
      rw [e] at hr
      rw [hk, add_plain] at x0
      have c0r := hI.cell
      have HC := Aside0.mk hC
      have HC2 := Aside0.mk hC2
      have HCa := Aside0.mk hca
      have HCb := Aside0.mk hcb
      have HSm := Aside0.mk hsm
      have HEl := Aside0.mk hel
      have HFt := Aside0.mk hft
      have HHj := Aside0.mk hj
      have HEn := Aside0.mk (show (flatE encT (tbs M)).length ≤ 5000 * M.length from by have h1 := hen; unfold tbs at h1 ⊢; rw [List.length_map] at h1; exact h1)
      clear hC hC2 hca hcb hsm hel hft hen hpt hgm htb hks hk hj hI e hp he
      go_wp2_with fail
      clear x0 hr c0r
      refine (putTable_walk W.heap.size wr _ (flatE encT ((tbs M).take j)) p.2.2 A' ca' B' cb' HC.out HCa.out HC2.out HCb.out HSm.out (by have := HEl.out; omega) HV.out hbr (by have := HFt.out.2; have := HEn.out; omega)).mono ?_
      rintro e w2 ⟨v2, rfl, hv2, hb2, hf2⟩
      rw [← HFt.out.1] at hv2
      have HV2 := Aside0.mk hv2
      have HB2 := Aside0.mk (HB.out.trans hb2)
      have HR2 := Aside0.mk (own_move HR.out fun k hk => hf2.block k (by obtain ⟨cs, hc⟩ := own_typed HR.out k hk; exact blk_lt hc) fun e => by
        obtain ⟨cs, hc⟩ := own_typed HR.out k hk
        obtain ⟨cs', hc'⟩ := own_typed HV.out k e
        rw [hc] at hc'; injection hc' with hc'; injection hc' with _ hc'; exact absurd hc' (by decide))
      clear hv2 hb2 hf2
      go_wp2_with fail
      go_roundg kq1
      case measure => have := HJ.out; omega
      case rel => exact ⟨j + 1, by go_num, ⟨by have := HJ.out; omega, by have := HHj.out; omega⟩, HV2, HR2, HB2⟩
    · have hji : ¬ (j : Int) < (M.length : Int) := by omega
      have hjn : j = M.length := by have := HJ.out; omega
      subst hjn
      have hv := HV.out
      rw [List.take_of_length_le (by unfold tbs; rw [List.length_map]; exact Nat.le_refl _)] at hv
      have hconv := conv_own hv
      have hen := flatE_le encT 5000 (tbs M) fun x hx => (chk_small (HI.out.len_enc x hx)).2
      obtain ⟨A4, k4, rfl⟩ := own_shape hv
      obtain ⟨l, hl⟩ : ∃ l, flatE encT (tbs M) = l := ⟨_, rfl⟩
      have hR : R = if 262144 < l.length then (⟨#[]⟩, 2) else (⟨l.toArray⟩, 0) := by rw [← HR0.out]; unfold encR encM; rw [hl]
      rw [hl] at hconv
      by_cases hz : 262144 < l.length
      · have hz2 : (262144 : Int) < (l.length : Int) := by omega
        rw [if_pos hz] at hR
        have HRR := Aside0.mk hR
        clear hv hconv hR hen hz
        rw [hl]
        go_wp2_with fail
        go_ret2
        exact ⟨by rw [HRR.out]; rfl, HB.out⟩
      · have hz2 : ¬ (262144 : Int) < (l.length : Int) := by omega
        rw [if_neg hz] at hR
        have HRR := Aside0.mk hR
        have HCv := Aside0.mk hconv
        clear hv hconv hR hen hz
        rw [hl]
        go_wp2_with ((with_reducible refine gate_dst (N := 27) rfl ?_); refine Kd.event_run (v := .string ⟨l.toArray⟩) (w1 := wr) rfl (conv_run rfl rfl HCv.out) ?_)
        go_ret2
        exact ⟨by rw [HRR.out]; rfl, HB.out⟩
end Go.Proofs.Ytjehbnhjaogfkaa.Sc
end
