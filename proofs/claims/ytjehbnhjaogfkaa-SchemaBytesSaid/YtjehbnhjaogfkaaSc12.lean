import Derived.Test.YtjehbnhjaogfkaaSc11
import Derived.Test.YtjehbnhjaogfkaaSc3
namespace Go.Proofs.Ytjehbnhjaogfkaa.Sc
open Go.RowKit Go.Lib Go.Proofs.YtjehbnhjaogfkaaW.PrintWords Go.Proofs.YtjehbnhjaogfkaaW.PrintLast Go.Proofs.YtjehbnhjaogfkaaW.PrintMore
open Go.Proofs.Ytjehbnhjaogfkaa
set_option linter.unusedVariables false
set_option linter.unusedSimpArgs false
def flatE {α : Type} (enc : α → List UInt8) : List α → List UInt8
  | [] => []
  | x :: r => enc x ++ flatE enc r
theorem flatE_app {α : Type} (enc : α → List UInt8) (a b : List α) : flatE enc (a ++ b) = flatE enc a ++ flatE enc b := by
  induction a with
  | nil => rfl
  | cons x r ih => simp [flatE, ih]
def encL {α : Type} (enc : α → List UInt8) (l : List α) : List UInt8 := num8 l.length ++ flatE enc l
theorem encL_len {α : Type} (enc : α → List UInt8) (l : List α) : (encL enc l).length = 8 + (flatE enc l).length := by unfold encL; rw [List.length_append, num8_len]
/-- What the first j take, and the next. -/
theorem flatE_take {α : Type} (enc : α → List UInt8) (l : List α) (j : Nat) (h : j < l.length) : flatE enc (l.take (j + 1)) = flatE enc (l.take j) ++ enc l[j] ∧ (flatE enc (l.take j)).length + (enc l[j]).length ≤ (flatE enc l).length := by
  have e1 : flatE enc (l.take (j + 1)) = flatE enc (l.take j) ++ enc l[j] := by
    rw [List.take_succ_eq_append_getElem h, flatE_app]
    simp [flatE]
  refine ⟨e1, ?_⟩
  have e2 : flatE enc l = flatE enc (l.take (j + 1)) ++ flatE enc (l.drop (j + 1)) := by rw [← flatE_app, List.take_append_drop]
  rw [e2, e1, List.length_append, List.length_append]
  omega
theorem cell_below {w W : World} {a : Addr} {v : Value} (hb : Below w.heap.size w W) (h : w.cell? a = some v) : W.cell? a = some v := by
  have hl := World.block_lt_of_cell? _ _ h
  rw [← h]
  unfold World.cell?
  rw [hb.block _ hl]
theorem Wr.flag {base : Nat} {W : World} {g : Nat} {bs : List UInt8} {bad : Bool} (h : Wr base W g bs bad) (x : Bool) : Wr base (W.setCell ⟨g, 1, none⟩ (.bool x)) g bs x ∧ KT base g W (W.setCell ⟨g, 1, none⟩ (.bool x)) := by
  obtain ⟨hge, kv, hb, ho⟩ := h
  have hne1 : some g ≠ kv.ownBlock := fun e => by
    obtain ⟨cs, hc⟩ := own_typed ho g e.symm
    rw [hb] at hc; injection hc with hc; injection hc with _ hc; exact absurd hc (by decide)
  refine ⟨⟨hge, kv, blk_put hb 1 (.bool x) rfl, own_setCell ho (p := ⟨g, 1, none⟩) hne1 _⟩, ⟨rfl, rfl, rfl, by simp [World.setCell], fun i hi hl => ?_, fun i hl hig ht => ?_⟩⟩
  · exact Below.heap_setCell W ⟨g, 1, none⟩ _ i (by simp; omega)
  · exact Below.heap_setCell W ⟨g, 1, none⟩ _ i hig
set_option maxRecDepth 100000 in
set_option maxHeartbeats 4000000 in
theorem listC_walk (w0 W : World) (g : Nat) (bs : List UInt8) (A : Option Addr) (l : List Col) (cap : Nat) (hC : kcol.C w0 A l.length l) (hcap : l.length ≤ cap) (h : Wr w0.heap.size W g bs false) (hB : Below w0.heap.size w0 W) (hl : l.length ≤ 4096) (hs : ∀ x ∈ l, x.nm.size ≤ 100000 ∧ inR x.kd) (hfit : bs.length + (encL encC l).length + 64 ≤ 65536) :
    Calls Try.prog 69 #[.pointer (some ⟨g, 0, none⟩), .slice A l.length cap, .func (.func 66) #[.pointer (some ⟨g, 0, none⟩)] #[]] W fun e W' => e = .returned (.tuple #[]) ∧ Wr w0.heap.size W' g (bs ++ encL encC l) false ∧ KT w0.heap.size g W W' := by
  have HC := Aside0.mk hC
  have HS := Aside0.mk hs
  have H0 := Aside0.mk h
  have HBB := Aside0.mk hB
  have hbs := hB.size
  have hfit2 := hfit
  rw [encL_len] at hfit2
  clear hC hs h hB hfit
  obtain ⟨b1, hb1⟩ : ∃ b1, b1 = bs ++ num8 l.length := ⟨_, rfl⟩
  have hb1l : b1.length = bs.length + 8 := by rw [hb1, List.length_append, num8_len]
  have HB1 := Aside0.mk hb1
  clear hb1
  have hz : ¬ (4096 : Int) < (l.length : Int) := by omega
  have hz2 : (l.length : Int) ≤ 4096 := by omega
  go_enter Try.func69, Try.ntmps69
  go_upto_region 1 with (go_at_call 70; refine (number_walk _ _ g bs false _ H0.out hbs (by omega) (by omega)).mono ?_; rintro e w1 ⟨rfl, h1, hk1⟩; obtain ⟨A0, c0, x0, x1, f0, f1, hown⟩ := h1.cell; have H1 := Aside0.mk h1; have K1 := Aside0.mk hk1; clear h1 hk1 hown)
  have H1b : Wr w0.heap.size w1 g b1 false := by rw [HB1.out]; exact H1.out
  obtain ⟨q1, q2⟩ := H1b.flag (decide ((4096 : Int) < (l.length : Int)))
  have hd : decide ((4096 : Int) < (l.length : Int)) = false := decide_eq_false (by omega)
  have H2 := Aside0.mk q1
  have K2 := Aside0.mk (K1.out.trans q2)
  have HD := Aside0.mk hd
  clear H1b q1 q2 hd
  go_wp2_with fail
  clear x0 x1 f0 f1 H1 K1
  generalize w1.setCell ⟨g, 1, none⟩ (.bool (decide ((4096 : Int) < (l.length : Int)))) = w2 at *
  have h2 := H2.out
  rw [HD.out] at h2
  have H2 := Aside0.mk h2
  clear h2 HD
  go_loopg [26] (l.length + 1) (fun kq v26 w' => ∃ j : Nat, v26 = .int .i64 (j : Int) ∧ Aside0 (j + kq = l.length + 1 ∧ j ≤ l.length) ∧ Aside0 (Wr w0.heap.size w' g (b1 ++ flatE encC (l.take j)) false) ∧ Aside0 (KT w0.heap.size g W w'))
  case atStart => exact ⟨0, rfl, ⟨by omega, Nat.zero_le _⟩, ⟨by simpa [flatE] using H2.out⟩, K2⟩
  case round =>
    clear H2 K2
    obtain ⟨j, rfl, HJ, HWr, HK⟩ := hrel
    by_cases hj : j < l.length
    · obtain ⟨kq1, rfl⟩ : ∃ kq1, gk = kq1 + 1 := ⟨gk - 1, by have := HJ.out; omega⟩
      have hji : (j : Int) < (l.length : Int) := by omega
      have hBr := HK.out.to_below HBB.out (.inr trivial) hbs
      obtain ⟨ad, rfl, x0, x1⟩ := col_at (Kd.C_below HC.out hBr) j hj
      have hsz := HS.out _ (List.getElem_mem hj)
      obtain ⟨e1, e2⟩ := flatE_take encC l j hj
      obtain ⟨x, hx⟩ : ∃ x, l[j] = x := ⟨_, rfl⟩
      rw [hx] at hsz x0 x1 e1 e2
      have hbl : (b1 ++ flatE encC (l.take j)).length + 8 ≤ 65536 := by rw [List.length_append]; have := encC_len x; omega
      have hrs := hBr.size
      have y1 := far_cell x1
      have HE := Aside0.mk e1
      have HSz := Aside0.mk hsz
      have HBl := Aside0.mk hbl
      have HHj := Aside0.mk hj
      have HWa := Aside0.mk (HWr.out.below (below_alloc (Below.refl wr.heap.size wr) (.cells #[.string x.nm, .int .i64 x.kd] 32)))
      have HKa := Aside0.mk (HK.out.trans (KT.of_below (base := w0.heap.size) (g := g) (below_alloc (Below.refl wr.heap.size wr) (.cells #[.string x.nm, .int .i64 x.kd] 32))))
      clear hsz e1 e2 hbl hx hj hBr
      go_wp2_with fail
      refine (column_walk w0.heap.size _ g _ false x HWa.out (by have := HKa.out.size; omega) HBl.out HSz.out.1 HSz.out.2).mono ?_
      rintro e w3 ⟨rfl, h3, hk3⟩
      have H3 := Aside0.mk h3
      have K3 := Aside0.mk (HKa.out.trans hk3)
      clear h3 hk3 x0 x1 y1
      go_wp2_with fail
      go_roundg kq1
      case measure => have := HJ.out; omega
      case rel => exact ⟨j + 1, by go_num, ⟨by have := HJ.out; omega, by have := HHj.out; omega⟩, ⟨by rw [HE.out, ← List.append_assoc]; exact H3.out⟩, K3⟩
    · have hji : ¬ (j : Int) < (l.length : Int) := by omega
      go_wp2_with fail
      have hjn : j = l.length := by have := HJ.out; omega
      subst hjn
      have h1 := HWr.out
      rw [List.take_length, HB1.out, List.append_assoc] at h1
      go_end0
      exact ⟨rfl, h1, HK.out⟩
set_option maxRecDepth 100000 in
set_option maxHeartbeats 4000000 in
theorem listN_walk (w0 W : World) (g : Nat) (bs : List UInt8) (A : Option Addr) (l : List Int) (cap : Nat) (hC : (Kd.int .i64).C w0 A l.length l) (hcap : l.length ≤ cap) (h : Wr w0.heap.size W g bs false) (hB : Below w0.heap.size w0 W) (hl : l.length ≤ 4096) (hs : ∀ x ∈ l, inR x) (hfit : bs.length + (encL num8 l).length + 64 ≤ 65536) :
    Calls Try.prog 86 #[.pointer (some ⟨g, 0, none⟩), .slice A l.length cap, .func (.func 85) #[.pointer (some ⟨g, 0, none⟩)] #[]] W fun e W' => e = .returned (.tuple #[]) ∧ Wr w0.heap.size W' g (bs ++ encL num8 l) false ∧ KT w0.heap.size g W W' := by
  have HC := Aside0.mk hC
  have HS := Aside0.mk hs
  have H0 := Aside0.mk h
  have HBB := Aside0.mk hB
  have hbs := hB.size
  have hfit2 := hfit
  rw [encL_len] at hfit2
  clear hC hs h hB hfit
  obtain ⟨b1, hb1⟩ : ∃ b1, b1 = bs ++ num8 l.length := ⟨_, rfl⟩
  have hb1l : b1.length = bs.length + 8 := by rw [hb1, List.length_append, num8_len]
  have HB1 := Aside0.mk hb1
  clear hb1
  have hz : ¬ (4096 : Int) < (l.length : Int) := by omega
  have hz2 : (l.length : Int) ≤ 4096 := by omega
  go_enter Try.func86, Try.ntmps86
  go_upto_region 1 with (go_at_call 70; refine (number_walk _ _ g bs false _ H0.out hbs (by omega) (by omega)).mono ?_; rintro e w1 ⟨rfl, h1, hk1⟩; obtain ⟨A0, c0, x0, x1, f0, f1, hown⟩ := h1.cell; have H1 := Aside0.mk h1; have K1 := Aside0.mk hk1; clear h1 hk1 hown)
  have H1b : Wr w0.heap.size w1 g b1 false := by rw [HB1.out]; exact H1.out
  obtain ⟨q1, q2⟩ := H1b.flag (decide ((4096 : Int) < (l.length : Int)))
  have hd : decide ((4096 : Int) < (l.length : Int)) = false := decide_eq_false (by omega)
  have H2 := Aside0.mk q1
  have K2 := Aside0.mk (K1.out.trans q2)
  have HD := Aside0.mk hd
  clear H1b q1 q2 hd
  go_wp2_with fail
  clear x0 x1 f0 f1 H1 K1
  generalize w1.setCell ⟨g, 1, none⟩ (.bool (decide ((4096 : Int) < (l.length : Int)))) = w2 at *
  have h2 := H2.out
  rw [HD.out] at h2
  have H2 := Aside0.mk h2
  clear h2 HD
  go_loopg [26] (l.length + 1) (fun kq v26 w' => ∃ j : Nat, v26 = .int .i64 (j : Int) ∧ Aside0 (j + kq = l.length + 1 ∧ j ≤ l.length) ∧ Aside0 (Wr w0.heap.size w' g (b1 ++ flatE num8 (l.take j)) false) ∧ Aside0 (KT w0.heap.size g W w'))
  case atStart => exact ⟨0, rfl, ⟨by omega, Nat.zero_le _⟩, ⟨by simpa [flatE] using H2.out⟩, K2⟩
  case round =>
    clear H2 K2
    obtain ⟨j, rfl, HJ, HWr, HK⟩ := hrel
    by_cases hj : j < l.length
    · obtain ⟨kq1, rfl⟩ : ∃ kq1, gk = kq1 + 1 := ⟨gk - 1, by have := HJ.out; omega⟩
      have hji : (j : Int) < (l.length : Int) := by omega
      have hBr := HK.out.to_below HBB.out (.inr trivial) hbs
      obtain ⟨ad, rfl, x0⟩ := int_at (Kd.C_below HC.out hBr) j hj
      have hsz := HS.out _ (List.getElem_mem hj)
      obtain ⟨e1, e2⟩ := flatE_take num8 l j hj
      obtain ⟨x, hx⟩ : ∃ x, l[j] = x := ⟨_, rfl⟩
      rw [hx] at hsz x0 e1 e2
      have hbl : (b1 ++ flatE num8 (l.take j)).length + 8 ≤ 65536 := by rw [List.length_append]; have := num8_len x; omega
      have hrs := hBr.size
      have HE := Aside0.mk e1
      have HSz := Aside0.mk hsz
      have HBl := Aside0.mk hbl
      have HHj := Aside0.mk hj
      have HWa := Aside0.mk HWr.out
      have HKa := Aside0.mk HK.out
      clear hsz e1 e2 hbl hx hj hBr
      go_wp2_with fail
      refine (place_walk w0.heap.size _ g _ false x HWa.out (by have := HKa.out.size; omega) (by have := HBl.out; omega) HSz.out).mono ?_
      rintro e w3 ⟨rfl, h3, hk3⟩
      have H3 := Aside0.mk h3
      have K3 := Aside0.mk (HKa.out.trans hk3)
      clear h3 hk3 x0
      go_wp2_with fail
      go_roundg kq1
      case measure => have := HJ.out; omega
      case rel => exact ⟨j + 1, by go_num, ⟨by have := HJ.out; omega, by have := HHj.out; omega⟩, ⟨by rw [HE.out, ← List.append_assoc]; exact H3.out⟩, K3⟩
    · have hji : ¬ (j : Int) < (l.length : Int) := by omega
      go_wp2_with fail
      have hjn : j = l.length := by have := HJ.out; omega
      subst hjn
      have h1 := HWr.out
      rw [List.take_length, HB1.out, List.append_assoc] at h1
      go_end0
      exact ⟨rfl, h1, HK.out⟩
def encX (x : Ix) : List UInt8 := txt x.nm ++ (encL num8 x.cols ++ [if x.uq then 1 else 0])
theorem flat8_len (l : List Int) : (flatE num8 l).length = 8 * l.length := by
  induction l with
  | nil => rfl
  | cons x r ih => rw [flatE, List.length_append, num8_len, ih, List.length_cons]; omega
theorem encX_len (x : Ix) : (encX x).length = 17 + x.nm.size + 8 * x.cols.length := by unfold encX; rw [List.length_append, List.length_append, txt_len, encL_len, flat8_len, List.length_singleton]; omega
set_option maxRecDepth 100000 in
set_option maxHeartbeats 4000000 in
theorem windex_walk (w0 W : World) (g : Nat) (bs : List UInt8) (nm : ByteArray) (uq : Bool) (B : Option Addr) (cols : List Int) (e : Nat) (hC : (Kd.int .i64).C w0 B cols.length cols) (hcap : cols.length ≤ e) (h : Wr w0.heap.size W g bs false) (hB : Below w0.heap.size w0 W) (hl : cols.length ≤ 4096) (hs : nm.size ≤ 100000) (hr : ∀ n ∈ cols, inR n) (hfit : bs.length + (encX ⟨nm, cols, uq⟩).length + 64 ≤ 65536) :
    Calls Try.prog 67 #[.pointer (some ⟨g, 0, none⟩), .agg #[.string nm, .slice B cols.length e, .bool uq]] W fun e W' => e = .returned (.tuple #[]) ∧ Wr w0.heap.size W' g (bs ++ encX ⟨nm, cols, uq⟩) false ∧ KT w0.heap.size g W W' := by
  have HC := Aside0.mk hC
  have HS := Aside0.mk hr
  have HBB := Aside0.mk hB
  have hbs := hB.size
  have hgl := h.lt
  rw [encX_len] at hfit
  simp only at hfit
  have H0 := Aside0.mk (h.below (below_alloc (Below.refl _ _) (.cells #[.string nm, .slice B cols.length e, .bool uq] 67)))
  have K0 := Aside0.mk (KT.of_below (base := w0.heap.size) (g := g) (below_alloc (Below.refl _ W) (.cells #[.string nm, .slice B cols.length e, .bool uq] 67)))
  have HB := Aside0.mk (heap_alloc_new W (.cells #[.string nm, .slice B cols.length e, .bool uq] 67))
  have hbase1 : w0.heap.size ≤ (W.alloc (.cells #[.string nm, .slice B cols.length e, .bool uq] 67)).heap.size := Nat.le_trans hbs K0.out.size
  clear hC hr hB h
  obtain ⟨b1, hb1⟩ : ∃ b1, b1 = bs ++ txt nm := ⟨_, rfl⟩
  have hb1l : b1.length = bs.length + (8 + nm.size) := by rw [hb1, List.length_append, txt_len]
  have HB1 := Aside0.mk hb1
  clear hb1
  obtain ⟨b2, hb2⟩ : ∃ b2, b2 = b1 ++ encL num8 cols := ⟨_, rfl⟩
  have hb2l : b2.length = b1.length + (8 + 8 * cols.length) := by rw [hb2, List.length_append, encL_len, flat8_len]
  have HB2 := Aside0.mk hb2
  clear hb2
  go_enter Try.func67, Try.ntmps67
  go_wp2_with (first
    | (go_at_call 68; refine (text_walk _ _ g bs false nm H0.out hbase1 (by omega) (by omega)).mono ?_; rintro e w1 ⟨rfl, h1, hk1⟩; rw [← HB1.out] at h1; have b1' := hk1.cells HB.out (by decide) (by omega); have c1 : w1.cell? ⟨W.heap.size, 1, none⟩ = some (.slice B cols.length e) := (blk_cell b1' 1).trans rfl; have H1 := Aside0.mk h1; have K1 := Aside0.mk (K0.out.trans hk1); have HBx := Aside0.mk b1'; clear h1 hk1 b1')
    | (go_at_call 86; refine (listN_walk w0 _ g b1 B cols e HC.out hcap H1.out (K1.out.to_below HBB.out (.inr trivial) hbs) hl HS.out (by rw [encL_len, flat8_len]; omega)).mono ?_; rintro e w2 ⟨rfl, h2, hk2⟩; rw [← HB2.out] at h2; have b2' := hk2.cells HBx.out (by decide) (by omega); have c2 : w2.cell? ⟨W.heap.size, 2, none⟩ = some (.bool uq) := (blk_cell b2' 2).trans rfl; have H2 := Aside0.mk h2; have K2 := Aside0.mk (K1.out.trans hk2); clear h2 hk2 b2')
    | (go_at_call 87; refine (flag_walk _ _ g b2 false uq H2.out (Nat.le_trans hbs K2.out.size) (by omega)).mono ?_; rintro e w3 ⟨rfl, h3, hk3⟩; have H3 := Aside0.mk h3; have K3 := Aside0.mk (K2.out.trans hk3); clear h3 hk3))
  go_end0
  refine ⟨rfl, ?_, K3.out⟩
  have h3 := H3.out
  rw [HB2.out, HB1.out, List.append_assoc, List.append_assoc] at h3
  exact h3
set_option maxRecDepth 100000 in
set_option maxHeartbeats 4000000 in
theorem listX_walk (w0 W : World) (g : Nat) (bs : List UInt8) (A : Option Addr) (l : List Ix) (cap : Nat) (hC : kix.C w0 A l.length l) (hcap : l.length ≤ cap) (h : Wr w0.heap.size W g bs false) (hB : Below w0.heap.size w0 W) (hl : l.length ≤ 4096) (hs : ∀ x ∈ l, x.nm.size ≤ 100000 ∧ x.cols.length ≤ 4096 ∧ ∀ n ∈ x.cols, inR n) (hfit : bs.length + (encL encX l).length + 64 ≤ 65536) :
    Calls Try.prog 71 #[.pointer (some ⟨g, 0, none⟩), .slice A l.length cap, .func (.func 67) #[.pointer (some ⟨g, 0, none⟩)] #[]] W fun e W' => e = .returned (.tuple #[]) ∧ Wr w0.heap.size W' g (bs ++ encL encX l) false ∧ KT w0.heap.size g W W' := by
  have HC := Aside0.mk hC
  have HS := Aside0.mk hs
  have H0 := Aside0.mk h
  have HBB := Aside0.mk hB
  have hbs := hB.size
  have hfit2 := hfit
  rw [encL_len] at hfit2
  clear hC hs h hB hfit
  obtain ⟨b1, hb1⟩ : ∃ b1, b1 = bs ++ num8 l.length := ⟨_, rfl⟩
  have hb1l : b1.length = bs.length + 8 := by rw [hb1, List.length_append, num8_len]
  have HB1 := Aside0.mk hb1
  clear hb1
  have hz : ¬ (4096 : Int) < (l.length : Int) := by omega
  have hz2 : (l.length : Int) ≤ 4096 := by omega
  go_enter Try.func71, Try.ntmps71
  go_upto_region 1 with (go_at_call 70; refine (number_walk _ _ g bs false _ H0.out hbs (by omega) (by omega)).mono ?_; rintro e w1 ⟨rfl, h1, hk1⟩; obtain ⟨A0, c0, x0, x1, f0, f1, hown⟩ := h1.cell; have H1 := Aside0.mk h1; have K1 := Aside0.mk hk1; clear h1 hk1 hown)
  have H1b : Wr w0.heap.size w1 g b1 false := by rw [HB1.out]; exact H1.out
  obtain ⟨q1, q2⟩ := H1b.flag (decide ((4096 : Int) < (l.length : Int)))
  have hd : decide ((4096 : Int) < (l.length : Int)) = false := decide_eq_false (by omega)
  have H2 := Aside0.mk q1
  have K2 := Aside0.mk (K1.out.trans q2)
  have HD := Aside0.mk hd
  clear H1b q1 q2 hd
  go_wp2_with fail
  clear x0 x1 f0 f1 H1 K1
  generalize w1.setCell ⟨g, 1, none⟩ (.bool (decide ((4096 : Int) < (l.length : Int)))) = w2 at *
  have h2 := H2.out
  rw [HD.out] at h2
  have H2 := Aside0.mk h2
  clear h2 HD
  go_loopg [26] (l.length + 1) (fun kq v26 w' => ∃ j : Nat, v26 = .int .i64 (j : Int) ∧ Aside0 (j + kq = l.length + 1 ∧ j ≤ l.length) ∧ Aside0 (Wr w0.heap.size w' g (b1 ++ flatE encX (l.take j)) false) ∧ Aside0 (KT w0.heap.size g W w'))
  case atStart => exact ⟨0, rfl, ⟨by omega, Nat.zero_le _⟩, ⟨by simpa [flatE] using H2.out⟩, K2⟩
  case round =>
    clear H2 K2
    obtain ⟨j, rfl, HJ, HWr, HK⟩ := hrel
    by_cases hj : j < l.length
    · obtain ⟨kq1, rfl⟩ : ∃ kq1, gk = kq1 + 1 := ⟨gk - 1, by have := HJ.out; omega⟩
      have hji : (j : Int) < (l.length : Int) := by omega
      have hBr := HK.out.to_below HBB.out (.inr trivial) hbs
      obtain ⟨ad, B, e, rfl, x0, x1, x2, hle, hC⟩ := ix_at HC.out j hj
      replace x0 := cell_below hBr x0
      replace x1 := cell_below hBr x1
      replace x2 := cell_below hBr x2
      have hsz := HS.out _ (List.getElem_mem hj)
      obtain ⟨e1, e2⟩ := flatE_take encX l j hj
      obtain ⟨x, hx⟩ : ∃ x, l[j] = x := ⟨_, rfl⟩
      rw [hx] at hsz x0 x1 x2 e1 e2 hle hC
      have hbl : (b1 ++ flatE encX (l.take j)).length + (encX x).length + 64 ≤ 65536 := by rw [List.length_append]; omega
      have hrs := hBr.size
      have y1 := far_cell x1
      have y2 := far_cell x2
      have HCx := Aside0.mk hC
      have HE := Aside0.mk e1
      have HSz := Aside0.mk hsz
      have HBl := Aside0.mk hbl
      have HHj := Aside0.mk hj
      have HWa := Aside0.mk (HWr.out.below (below_alloc (Below.refl wr.heap.size wr) (.cells #[.string x.nm, .slice B x.cols.length e, .bool x.uq] 67)))
      have HKa := Aside0.mk (HK.out.trans (KT.of_below (base := w0.heap.size) (g := g) (below_alloc (Below.refl wr.heap.size wr) (.cells #[.string x.nm, .slice B x.cols.length e, .bool x.uq] 67))))
      have HLe := Aside0.mk hle
      clear hsz e1 e2 hbl hx hj hBr hC hle
      go_wp2_with fail
      refine (windex_walk w0 _ g _ x.nm x.uq B x.cols e HCx.out HLe.out HWa.out (HKa.out.to_below HBB.out (.inr trivial) hbs) HSz.out.2.1 HSz.out.1 HSz.out.2.2 HBl.out).mono ?_
      rintro e w3 ⟨rfl, h3, hk3⟩
      have H3 := Aside0.mk h3
      have K3 := Aside0.mk (HKa.out.trans hk3)
      clear h3 hk3 x0 x1 y1 x2 y2
      go_wp2_with fail
      go_roundg kq1
      case measure => have := HJ.out; omega
      case rel => exact ⟨j + 1, by go_num, ⟨by have := HJ.out; omega, by have := HHj.out; omega⟩, ⟨by rw [HE.out, ← List.append_assoc]; exact H3.out⟩, K3⟩
    · have hji : ¬ (j : Int) < (l.length : Int) := by omega
      go_wp2_with fail
      have hjn : j = l.length := by have := HJ.out; omega
      subst hjn
      have h1 := HWr.out
      rw [List.take_length, HB1.out, List.append_assoc] at h1
      go_end0
      exact ⟨rfl, h1, HK.out⟩
end Go.Proofs.Ytjehbnhjaogfkaa.Sc
