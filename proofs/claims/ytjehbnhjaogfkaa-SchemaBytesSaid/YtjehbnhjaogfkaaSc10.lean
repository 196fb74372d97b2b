import Derived.Test.YtjehbnhjaogfkaaSc0
namespace Go.Proofs.Ytjehbnhjaogfkaa.Sc
open Go.RowKit Go.Lib Go.Proofs.YtjehbnhjaogfkaaW.PrintWords Go.Proofs.YtjehbnhjaogfkaaW.PrintLast Go.Proofs.YtjehbnhjaogfkaaW.PrintMore
open Go.Proofs.Ytjehbnhjaogfkaa
set_option linter.unusedVariables false
set_option linter.unusedSimpArgs false
/-! The bytes, plainly. -/
def bv (l : List UInt8) : List Value := l.map fun b => Value.int .u8 b.toNat
theorem bv_app (a b : List UInt8) : bv (a ++ b) = bv a ++ bv b := by simp [bv]
theorem bv_len (a : List UInt8) : (bv a).length = a.length := by simp [bv]
theorem bv_str (s : ByteArray) : strCells s = bv s.data.toList := by simp [strCells, bv]
def le : Nat → Int → List UInt8
  | 0, _ => []
  | k + 1, n => UInt8.ofNat (n % 256).toNat :: le k (n / 256)
def num8 (n : Int) : List UInt8 := le 8 n
theorem le_len (k : Nat) (n : Int) : (le k n).length = k := by
  induction k generalizing n with
  | zero => rfl
  | succ k ih => simp [le, ih]
def txt (s : ByteArray) : List UInt8 := num8 s.size ++ s.data.toList
theorem info5 : (Try.prog.info? 5).map (fun i => (i.zero, i.size, i.bytes)) = some (some (.int .u8 0), 1, 1) := by kernel_rfl
/-! The writer at block g. -/
structure Wr (base : Nat) (W : World) (g : Nat) (bs : List UInt8) (bad : Bool) : Prop where
  ge : base ≤ g
  out : ∃ kv, W.heap[g]? = some (.cells #[kv, .bool bad] 103 (0, 0)) ∧ W.ownsRow base 5 1 kv bs.length (bv bs)
/-- What a call of the writer leaves: all but block g and the rows of bytes. -/
structure KT (base g : Nat) (w W : World) : Prop where
  os : W.os = w.os
  tape : W.tape = w.tape
  output : W.output = w.output
  size : w.heap.size ≤ W.heap.size
  low : ∀ i, i < base → i < w.heap.size → W.heap[i]? = w.heap[i]?
  blk : ∀ i, i < w.heap.size → i ≠ g → (∀ cs, w.heap[i]? ≠ some (.cells cs 5 (0, 0))) → W.heap[i]? = w.heap[i]?
theorem KT.refl (base g : Nat) (w : World) : KT base g w w := ⟨rfl, rfl, rfl, Nat.le_refl _, fun _ _ _ => rfl, fun _ _ _ _ => rfl⟩
theorem KT.trans {base g : Nat} {a b c : World} (h : KT base g a b) (k : KT base g b c) : KT base g a c :=
  ⟨k.os.trans h.os, k.tape.trans h.tape, k.output.trans h.output, Nat.le_trans h.size k.size, fun i hb hi => (k.low i hb (Nat.lt_of_lt_of_le hi h.size)).trans (h.low i hb hi), fun i hi hg ht => (k.blk i (Nat.lt_of_lt_of_le hi h.size) hg (by rw [h.blk i hi hg ht]; exact ht)).trans (h.blk i hi hg ht)⟩
theorem KT.of_below {base g : Nat} {a b : World} (h : Below a.heap.size a b) : KT base g a b := ⟨h.os, h.tape, h.output, h.size, fun i _ hi => h.block i hi, fun i hi _ _ => h.block i hi⟩
theorem KT.below {base g : Nat} {a b : World} (h : KT base g a b) : Below base a b → True := fun _ => trivial
theorem KT.to_below {base g : Nat} {w0 a b : World} (h : KT base g a b) (hb : Below base w0 a) (hl : w0.heap.size ≤ base ∨ True) (hs : base ≤ a.heap.size) : Below base w0 b :=
  ⟨h.os.trans hb.os, h.tape.trans hb.tape, h.output.trans hb.output, Nat.le_trans hb.size h.size, fun k hk => (h.low k hk (Nat.lt_of_lt_of_le hk hs)).trans (hb.block k hk)⟩
/-- A block of another type stands. -/
theorem KT.cells {base g : Nat} {w W : World} {i e : Nat} (h : KT base g w W) {cs : Array Value} (hi : w.heap[i]? = some (.cells cs e (0, 0))) (he : e ≠ 5) (hg : i ≠ g) : W.heap[i]? = some (.cells cs e (0, 0)) :=
  (h.blk i (blk_lt hi) hg fun c' hc' => by rw [hc'] at hi; injection hi with hi; injection hi with _ hi; exact he hi.symm).trans hi
theorem Wr.lt {base : Nat} {W : World} {g : Nat} {bs : List UInt8} {bad : Bool} (h : Wr base W g bs bad) : g < W.heap.size := by
  obtain ⟨_, kv, h1, _⟩ := h
  exact blk_lt h1
theorem Wr.below {base : Nat} {W W1 : World} {g : Nat} {bs : List UInt8} {bad : Bool} (h : Wr base W g bs bad) (hb : Below W.heap.size W W1) : Wr base W1 g bs bad := by
  obtain ⟨hg, kv, h1, h2⟩ := h
  exact ⟨hg, kv, blk_below h1 hb, pw_own_below h2 hb⟩
/-- The bytes' cell, as the walk reads it. -/
theorem Wr.cell {base : Nat} {W : World} {g : Nat} {bs : List UInt8} {bad : Bool} (h : Wr base W g bs bad) : ∃ A c, W.cell? ⟨g, 0, none⟩ = some (.slice A bs.length c) ∧ W.cell? ⟨g, 1, none⟩ = some (.bool bad) ∧ W.frozen? ⟨g, 0, none⟩ = false ∧ W.frozen? ⟨g, 1, none⟩ = false ∧ W.ownsRow base 5 1 (.slice A bs.length c) bs.length (bv bs) := by
  obtain ⟨hg, kv, h1, h2⟩ := h
  obtain ⟨A, c, rfl⟩ : ∃ A c, kv = .slice A bs.length c := by
    rcases h2.2 with ⟨rfl, hn⟩ | ⟨g', cap, cur, rfl, -⟩
    · exact ⟨none, 0, by rw [hn]⟩
    · exact ⟨_, cap, rfl⟩
  exact ⟨A, c, (blk_cell h1 0).trans rfl, (blk_cell h1 1).trans rfl, by simp [World.frozen?, h1], by simp [World.frozen?, h1], h2⟩
theorem Wr.cellv {base : Nat} {W : World} {g : Nat} {bs : List UInt8} {bad : Bool} (h : Wr base W g bs bad) : ∃ kv, W.cell? ⟨g, 0, none⟩ = some kv ∧ W.ownsRow base 5 1 kv bs.length (bv bs) := by
  obtain ⟨hg, kv, h1, h2⟩ := h
  exact ⟨kv, (blk_cell h1 0).trans rfl, h2⟩
/-- Behind an append that was stored. -/
theorem Wr.put {base : Nat} {W w1 : World} {g : Nat} {bs news : List UInt8} {bad : Bool} {kv0 v : Value} (h : Wr base W g bs bad) (ho : W.ownsRow base 5 1 kv0 bs.length (bv bs)) (hbase : base ≤ W.heap.size) (h1 : w1.ownsRow base 5 1 v (bs ++ news).length (bv (bs ++ news))) (hg : W.grownBy w1 kv0.ownBlock) :
    Wr base (w1.setCell ⟨g, 0, none⟩ v) g (bs ++ news) bad ∧ KT base g W (w1.setCell ⟨g, 0, none⟩ v) := by
  obtain ⟨hge, kv, hb, -⟩ := h
  have hne : ∀ k, kv0.ownBlock = some k → k ≠ g := fun k hk e => by
    obtain ⟨cs, hc⟩ := own_typed ho k hk
    subst e
    rw [hb] at hc; injection hc with hc; injection hc with _ hc; exact absurd hc (by decide)
  have hb1 : w1.heap[g]? = some (.cells #[kv, .bool bad] 103 (0, 0)) := (hg.block g (blk_lt hb) fun e => hne g e.symm rfl).trans hb
  have hne1 : some g ≠ v.ownBlock := fun e => by
    obtain ⟨cs, hc⟩ := own_typed h1 g e.symm
    rw [hb1] at hc; injection hc with hc; injection hc with _ hc; exact absurd hc (by decide)
  refine ⟨⟨hge, v, blk_put hb1 0 v rfl, own_setCell h1 (p := ⟨g, 0, none⟩) hne1 v⟩, ⟨hg.os, hg.tape, hg.output, by have := hg.size; simpa [World.setCell] using this, fun i hi hl => ?_, fun i hl hig ht => ?_⟩⟩
  · refine (Below.heap_setCell w1 ⟨g, 0, none⟩ v i (by simp; omega)).trans (hg.block i hl fun e => ?_)
    have := own_base ho i e.symm
    omega
  · refine (Below.heap_setCell w1 ⟨g, 0, none⟩ v i hig).trans (hg.block i hl fun e => ?_)
    obtain ⟨cs, hc⟩ := own_typed ho i e.symm
    exact ht cs hc
theorem own_shape {w : World} {base e size n : Nat} {v : Value} {xs : List Value} (h : w.ownsRow base e size v n xs) : ∃ A c, v = .slice A n c := by
  rcases h.2 with ⟨rfl, hn⟩ | ⟨g', cap, cur, rfl, -⟩
  · exact ⟨none, 0, by rw [hn]⟩
  · exact ⟨_, cap, rfl⟩
theorem Wr.after {base : Nat} {W w1 : World} {g : Nat} {bs : List UInt8} {bad : Bool} {kv0 : Value} (h : Wr base W g bs bad) (ho : W.ownsRow base 5 1 kv0 bs.length (bv bs)) (hg : W.grownBy w1 kv0.ownBlock) : w1.cell? ⟨g, 0, none⟩ = W.cell? ⟨g, 0, none⟩ ∧ w1.frozen? ⟨g, 0, none⟩ = false := by
  obtain ⟨hge, kv, hb, -⟩ := h
  have hb1 : w1.heap[g]? = some (.cells #[kv, .bool bad] 103 (0, 0)) := (hg.block g (blk_lt hb) fun e => by
    obtain ⟨cs, hc⟩ := own_typed ho g e.symm
    rw [hb] at hc; injection hc with hc; injection hc with _ hc; exact absurd hc (by decide)).trans hb
  exact ⟨(blk_cell hb1 0).trans (blk_cell hb 0).symm, by simp [World.frozen?, hb1]⟩
theorem le_zero (n : Int) : le 0 n = [] := rfl
theorem le_succ (k : Nat) (n : Int) : le (k + 1) n = UInt8.ofNat (n % 256).toNat :: le k (n / 256) := rfl
theorem byte_val (n : Int) : Value.int .u8 (n % 256) = Value.int .u8 ((UInt8.ofNat (n % 256).toNat).toNat : Int) := by
  have h1 : 0 ≤ n % 256 := Int.emod_nonneg _ (by decide)
  have h2 : n % 256 < 256 := Int.emod_lt_of_pos _ (by decide)
  congr 1
  simp
  omega
set_option maxRecDepth 100000 in
set_option maxHeartbeats 2000000 in
theorem number_walk (base : Nat) (W : World) (g : Nat) (bs : List UInt8) (bad : Bool) (n : Int) (h : Wr base W g bs bad) (hbase : base ≤ W.heap.size) (hl : bs.length ≤ 1000000000) (hn : -9223372036854775808 ≤ n ∧ n ≤ 9223372036854775807) :
    Calls Try.prog 70 #[.pointer (some ⟨g, 0, none⟩), .int .i64 n] W fun e W' => e = .returned (.tuple #[]) ∧ Wr base W' g (bs ++ num8 n) bad ∧ KT base g W W' := by
  have H0 := Aside0.mk h
  have HN := Aside0.mk hn
  clear h hn
  go_enter Try.func70, Try.ntmps70
  go_wp2_with fail
  go_loopg [1, 4] 9 (fun kq v1 v4 w' => ∃ (i : Nat) (m : Int) (pre : List UInt8), v4 = .int .i64 (i : Int) ∧ v1 = .int .i64 m ∧ Aside0 (i + kq = 9 ∧ i ≤ 8 ∧ -9223372036854775808 ≤ m ∧ m ≤ 9223372036854775807) ∧ Aside0 (pre ++ le (8 - i) m = bs ++ num8 n ∧ pre.length = bs.length + i) ∧ Aside0 (Wr base w' g pre bad) ∧ Aside0 (KT base g W w'))
  case atStart => exact ⟨0, n, bs, rfl, rfl, ⟨by omega, by omega, HN.out⟩, ⟨rfl, rfl⟩, H0, ⟨KT.refl _ _ _⟩⟩
  case round =>
    obtain ⟨i, m, pre, rfl, rfl, HJ, HP, HWr, HK⟩ := hrel
    by_cases hj : i < 8
    · obtain ⟨kq1, rfl⟩ : ∃ kq1, gk = kq1 + 1 := ⟨gk - 1, by have := HJ.out; omega⟩
      have hji : (i : Int) < 8 := by omega
      obtain ⟨A, c, c0, c1, f0, f1, hown⟩ := HWr.out.cell
      have HO := Aside0.mk hown
      clear hown
      go_wp2_with ((with_reducible refine gate_builtin (b := .append) (xs := #[.tmp 10, .tmp 13]) rfl ?_); at_builtin; refine print_append_cells (w0 := wr) base rfl (.tmp 10) (.tmp 13) 74 5 (.int .u8 0) 1 1 rfl Try.underlying74 info5 rfl (by decide) (by decide) (.slice A pre.length c) pre.length (bv pre) [.int .u8 (m % 256)] rfl rfl rfl (by simp [Value.oneCell']) HO.out (Below.refl _ _) (Nat.le_trans hbase HK.out.size) (by have := HP.out.2; omega) ?_; intro v1 w1 ho1 hb1 hg1 hat1; obtain ⟨A1, k1, rfl⟩ := own_shape ho1; obtain ⟨y1, y2⟩ := HWr.out.after HO.out hg1; rw [c0] at y1; have HO1 := Aside0.mk ho1; have HG1 := Aside0.mk hg1; clear ho1 hb1 hg1 hat1)
      have hbv : bv pre ++ [Value.int .u8 (m % 256)] = bv (pre ++ [UInt8.ofNat (m % 256).toNat]) := by rw [bv_app, byte_val]; rfl
      have hlen : pre.length + 1 = (pre ++ [UInt8.ofNat (m % 256).toNat]).length := by simp
      have ho1 := HO1.out
      rw [hbv, hlen] at ho1
      obtain ⟨q1, q2⟩ := HWr.out.put HO.out (Nat.le_trans hbase HK.out.size) ho1 HG1.out
      rw [← hlen] at q1 q2
      have Q1 := Aside0.mk q1
      have Q2 := Aside0.mk (HK.out.trans q2)
      clear q1 q2 ho1 hbv y1 y2
      go_roundg kq1
      case measure => have := HJ.out; omega
      case rel =>
        have hJ := HJ.out
        have hP := HP.out
        refine ⟨i + 1, m / 256, pre ++ [UInt8.ofNat (m % 256).toNat], by go_num, rfl, ⟨by omega, by omega, by omega, by omega⟩, ⟨?_, by rw [← hlen]; omega⟩, Q1, Q2⟩
        rw [← hP.1, show 8 - i = (8 - (i + 1)) + 1 by omega, le_succ, List.append_assoc]; rfl
    · have hji : ¬ (i : Int) < 8 := by omega
      go_wp2_with fail
      have hJ := HJ.out
      have hP := HP.out
      obtain rfl : i = 8 := by omega
      rw [show 8 - 8 = 0 by rfl, le_zero, List.append_nil] at hP
      go_end0
      exact ⟨rfl, hP.1 ▸ HWr.out, HK.out⟩
theorem full_walk (base : Nat) (W : World) (g : Nat) (bs : List UInt8) (bad : Bool) (h : Wr base W g bs bad) (hl : bs.length ≤ 65536) :
    Calls Try.prog 88 #[.pointer (some ⟨g, 0, none⟩)] W fun e W' => e = .returned (.bool false) ∧ W' = W := by
  obtain ⟨A, c, c0, c1, f0, f1, hown⟩ := h.cell
  clear hown h
  have hz : ¬ (65536 : Int) < (bs.length : Int) := by omega
  go_enter Try.func88, Try.ntmps88
  go_wp2_with fail
  go_ret
  exact ⟨rfl, rfl⟩
set_option maxRecDepth 100000 in
set_option maxHeartbeats 2000000 in
theorem text_walk (base : Nat) (W : World) (g : Nat) (bs : List UInt8) (bad : Bool) (s : ByteArray) (h : Wr base W g bs bad) (hbase : base ≤ W.heap.size) (hl : bs.length + 8 ≤ 65536) (hs : s.size ≤ 1000000000) :
    Calls Try.prog 68 #[.pointer (some ⟨g, 0, none⟩), .string s] W fun e W' => e = .returned (.tuple #[]) ∧ Wr base W' g (bs ++ txt s) bad ∧ KT base g W W' := by
  have H0 := Aside0.mk h
  obtain ⟨b1, hb1⟩ : ∃ b1, b1 = bs ++ num8 s.size := ⟨_, rfl⟩
  have hn8 : b1.length = bs.length + 8 := by rw [hb1, List.length_append]; unfold num8; rw [le_len]
  have HB1 := Aside0.mk hb1
  have HN8 := Aside0.mk hn8
  clear h hn8 hb1
  go_enter Try.func68, Try.ntmps68
  go_wp2_with (first
    | (go_at_call 70; refine (number_walk base _ g bs bad _ H0.out hbase (by omega) (by omega)).mono ?_; rintro e w1 ⟨rfl, h1, hk1⟩; rw [← HB1.out] at h1; have H1 := Aside0.mk h1; have K1 := Aside0.mk hk1; clear h1 hk1)
    | (go_at_call 88; refine (full_walk base _ g _ bad H1.out (by rw [HN8.out]; omega)).mono ?_; rintro e w2 ⟨rfl, rfl⟩; obtain ⟨kv, c0, hown⟩ := H1.out.cellv; have HO := Aside0.mk hown; clear hown)
    | ((with_reducible refine gate_builtin (b := .append) (xs := #[.tmp 15, .tmp 16]) rfl ?_); at_builtin; obtain ⟨i0, hi, hzz⟩ := Option.map_eq_some_iff.1 info5; simp only [Prod.mk.injEq] at hzz; refine wpList_append_own_string _ rfl (.tmp 15) (.tmp 16) 74 9 rfl base 5 i0 Try.underlying74 Try.underlying9 hi hzz.1 hzz.2.1 hzz.2.2 _ _ _ rfl HO.out s rfl (by rw [HN8.out]; unfold maxLen; omega) (by rw [HN8.out]; omega) (Nat.le_trans hbase K1.out.size) ?_; clear hi hzz; intro v1 w3 ho1 hg1 hz1; obtain ⟨A1, k1, rfl⟩ := own_shape ho1; obtain ⟨y1, y2⟩ := H1.out.after HO.out hg1; rw [c0] at y1; have HO1 := Aside0.mk ho1; have HG1 := Aside0.mk hg1; clear ho1 hg1 hz1))
  have ho1 := HO1.out
  have e1 : b1.length + s.size = (b1 ++ s.data.toList).length := by rw [List.length_append]; rfl
  rw [bv_str, ← bv_app, e1] at ho1
  obtain ⟨q1, q2⟩ := H1.out.put HO.out (Nat.le_trans hbase K1.out.size) ho1 HG1.out
  rw [← e1] at q1 q2
  have e2 : b1 ++ s.data.toList = bs ++ txt s := by rw [HB1.out]; unfold txt; rw [List.append_assoc]
  rw [e2] at q1
  go_end0
  exact ⟨rfl, q1, K1.out.trans q2⟩
end Go.Proofs.Ytjehbnhjaogfkaa.Sc
