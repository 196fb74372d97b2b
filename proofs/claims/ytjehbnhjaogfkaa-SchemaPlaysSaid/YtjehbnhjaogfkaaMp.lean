/- Mp: the texts Sc50, Sc51, Sc52, Sc53, Sc54, one behind the other. -/
import Derived.Test.YtjehbnhjaogfkaaSc38
import Derived.Test.YtjehbnhjaogfkaaSc40
import Derived.Test.YtjehbnhjaogfkaaMb
import Derived.Test.YtjehbnhjaogfkaaWTab
section
namespace Go.Proofs.Ytjehbnhjaogfkaa.Sc
open Go.RowKit Go.Lib Go.Maps Go.WideAt Go.WideShapes Go.Proofs.YtjehbnhjaogfkaaW.PrintWords Go.Proofs.YtjehbnhjaogfkaaW.PrintLast Go.Proofs.YtjehbnhjaogfkaaW.PrintMore
open Go.Proofs.Ytjehbnhjaogfkaa
set_option linter.unusedVariables false
set_option linter.unusedSimpArgs false
/-! The document's reader at block g: all bytes, where it stands, whether they are none. -/
def Rr (W : World) (g : Nat) (B : List UInt8) (at_ : Nat) (bad : Bool) : Prop := W.heap[g]? = some (.cells #[.string (str B), .int .i64 (at_ : Int), .bool bad] 84 (0, 0)) ∧ at_ ≤ B.length ∧ B.length ≤ 1000000000
theorem Rr.below {W W1 : World} {g : Nat} {B : List UInt8} {at_ : Nat} {bad : Bool} (h : Rr W g B at_ bad) (hb : Below W.heap.size W W1) : Rr W1 g B at_ bad := ⟨blk_below h.1 hb, h.2⟩
theorem Rr.cells {W : World} {g : Nat} {B : List UInt8} {at_ : Nat} {bad : Bool} (h : Rr W g B at_ bad) : W.cell? ⟨g, 0, none⟩ = some (.string (str B)) ∧ W.cell? ⟨g, 1, none⟩ = some (.int .i64 (at_ : Int)) ∧ W.cell? ⟨g, 2, none⟩ = some (.bool bad) ∧ W.frozen? ⟨g, 1, none⟩ = false ∧ W.frozen? ⟨g, 2, none⟩ = false :=
  ⟨(blk_cell h.1 0).trans rfl, (blk_cell h.1 1).trans rfl, (blk_cell h.1 2).trans rfl, blk_frozen h.1 1, blk_frozen h.1 2⟩
/-- What stands ahead of it. -/
def rs (B : List UInt8) (at_ : Nat) (bad : Bool) : RS := ⟨B.drop at_, bad⟩
/-- A call of the document's reader: it says as the program's, and stands as that one does. -/
def RrTo (W W' : World) (g : Nat) (B : List UInt8) (s : RS) : Prop := ∃ at_, Rr W' g B at_ s.bad ∧ (s.bad = false → s.b = B.drop at_) ∧ Fr (Only g) W W'
set_option maxRecDepth 100000 in
set_option maxHeartbeats 8000000 in
theorem number_ref (W : World) (g : Nat) (B : List UInt8) (at_ : Nat) (bad : Bool) (h : Rr W g B at_ bad) :
    Calls Try.prog 56 #[.pointer (some ⟨g, 0, none⟩)] W fun e W' => e = .returned (.int .i64 (rnum (rs B at_ bad)).1) ∧ RrTo W W' g B (rnum (rs B at_ bad)).2 := by
  obtain ⟨c0, c1, c2, f1, f2⟩ := h.cells
  have H := Aside0.mk h
  have hsz := str_size B
  have hle := h.2.1
  have hbl := h.2.2
  by_cases hc : bad = true ∨ B.length < at_ + 8
  · have hr : rnum (rs B at_ bad) = (0, ⟨B.drop at_, true⟩) := by
      unfold rnum rtake rs
      rw [if_pos (hc.imp id fun h => .inr (by simp; omega))]
      simp [fromle, toI, wrap64]
    rw [hr]
    have HZ := Aside0.mk (fun n => (show RrTo W ((W.drewN n).setCell ⟨g, 2, none⟩ (.bool true)) g B ⟨B.drop at_, true⟩ from ⟨at_, (show Rr _ g B at_ true from ⟨blk_put (blk_below h.1 (pw_below_drewN (Below.refl _ _) n)) 2 (.bool true) rfl, hle, hbl⟩), fun h => absurd h (by simp), ((Fr.refl (Only g) W).drewN n).set (p := ⟨g, 2, none⟩) (.inl rfl) (.bool true)⟩))
    clear h hr
    cases bad with
    | true =>
      go_enter Try.func56, Try.ntmps56
      go_upto_region 1 with fail
      go_quiet (fail)
      go_wp2_with fail
      go_ret
      exact ⟨rfl, HZ.out _⟩
    | false =>
      have hlt : (B.length : Int) - (at_ : Int) < 8 := by
        rcases hc with h | h
        · cases h
        · omega
      go_enter Try.func56, Try.ntmps56
      go_upto_region 1 with fail
      go_quiet (fail)
      go_wp2_with fail
      go_ret
      exact ⟨rfl, HZ.out _⟩
  · have hb : bad = false := by cases bad <;> simp_all
    subst hb
    have h8 : at_ + 8 ≤ B.length := by omega
    have hlt : ¬ (B.length : Int) - (at_ : Int) < 8 := by omega
    obtain ⟨t, ht⟩ : ∃ t, (B.drop at_).take 8 = t := ⟨_, rfl⟩
    have htl : t.length = 8 := by rw [← ht, List.length_take, List.length_drop]; omega
    have hr : rnum (rs B at_ false) = (toI (fromle t), ⟨B.drop (at_ + 8), false⟩) := by
      unfold rnum rtake rs
      rw [if_neg (by simp; omega)]
      simp only [List.drop_drop]
      rw [← ht]
      rfl
    rw [hr]
    have hget : ∀ j, j < 8 → ∃ c : UInt8, t[j]? = some c ∧ ∀ hh, ((str B)[at_ + j]'hh) = c := fun j hj => by
      refine ⟨B[at_ + j]'(by omega), ?_, fun hh => rfl⟩
      rw [← ht, List.getElem?_take, if_pos hj, List.getElem?_drop, List.getElem?_eq_getElem (by omega)]
    have HG := Aside0.mk hget
    have HTl := Aside0.mk htl
    clear h hr hc hget htl ht
    go_enter Try.func56, Try.ntmps56
    go_upto_region 1 with fail
    go_quiet (fail)
    go_wp2_with fail
    have HW := Aside0.mk (pw_below_drewN (Below.refl W.heap.size W) nq)
    generalize W.drewN nq = w1 at *
    clear c0 c1 c2 f1 f2
    go_loopg [3, 4] 10 (fun kq v3 v4 w' => ∃ (j : Nat) (n : Int), v4 = .int .i64 n ∧ v3 = .int .u64 (fromle (t.drop j)) ∧ Aside0 (n = (j : Int) - 1 ∧ j + 1 < kq ∧ j ≤ 8) ∧ Aside0 (Below W.heap.size W w'))
    case atStart => exact ⟨8, 7, rfl, by rw [List.drop_of_length_le (by rw [HTl.out]; exact Nat.le_refl _)]; rfl, ⟨rfl, by omega, Nat.le_refl _⟩, HW⟩
    case round =>
      clear HW
      obtain ⟨j, n, rfl, rfl, HJ, HB⟩ := hrel
      obtain ⟨kq1, rfl⟩ : ∃ kq1, gk = kq1 + 1 := ⟨gk - 1, by have := HJ.out.2.1; omega⟩
      obtain ⟨c0, c1, c2, f1, f2⟩ := (H.out.below HB.out).cells
      cases j with
      | zero =>
        obtain rfl : n = -1 := by have := HJ.out.1; omega
        rw [List.drop_zero]
        go_wp2_with fail
        have HZ := Aside0.mk (show RrTo W (wr.setCell ⟨g, 1, none⟩ (.int .i64 ((at_ : Int) + 8))) g B ⟨B.drop (at_ + 8), false⟩ from ⟨at_ + 8, (show Rr _ g B (at_ + 8) false from ⟨by rw [Int.natCast_add]; exact blk_put (H.out.below HB.out).1 1 (.int .i64 ((at_ : Int) + 8)) rfl, h8, hbl⟩), fun _ => rfl, (Fr.of_below (S := Only g) HB.out).set (p := ⟨g, 1, none⟩) (.inl rfl) _⟩)
        go_ret
        exact ⟨rfl, HZ.out⟩
      | succ j0 =>
        obtain rfl : n = (j0 : Int) := by have := HJ.out.1; omega
        have hj : j0 < 8 := by have := HJ.out.2.2; omega
        have hji : (0 : Int) ≤ (j0 : Int) := by omega
        obtain ⟨c, hc, hx⟩ := HG.out j0 hj
        have hix : (at_ : Int) + (j0 : Int) < (B.length : Int) := by omega
        have hwa : wrap64 ((at_ : Int) + (j0 : Int)) = (at_ : Int) + (j0 : Int) := by unfold wrap64; omega
        have hzz : (0 : Int) ≤ (at_ : Int) + (j0 : Int) := by omega
        go_upto_region 8 with fail
        have hfb : fromle (t.drop (j0 + 1)) < 72057594037927936 := by
          have h1 := (fromle_nn (t.drop (j0 + 1))).2
          have h2 : (t.drop (j0 + 1)).length ≤ 7 := by rw [List.length_drop, HTl.out]; omega
          have h3 : (256 : Int) ^ (t.drop (j0 + 1)).length ≤ 256 ^ 7 := by have h5 := Nat.pow_le_pow_right (show 0 < 256 by decide) h2; exact_mod_cast h5
          have h4 : (256 : Int) ^ 7 = 72057594037927936 := by decide
          omega
        have hfn : fromle (t.drop j0) = (c.toNat : Int) + 256 * fromle (t.drop (j0 + 1)) := by
          obtain ⟨h1, h2⟩ := List.getElem?_eq_some_iff.1 hc
          rw [List.drop_eq_getElem_cons h1, fromle, h2]
        have hval : IntKind.u64.wrap (IntKind.u64.wrap (fromle (t.drop (j0 + 1)) * 256) + IntKind.u64.wrap (c.toNat : Int)) = fromle (t.drop j0) := by
          have h0 := (fromle_nn (t.drop (j0 + 1))).1
          have hcl := c.toNat_lt
          rw [IntKind.wrap_u64, IntKind.wrap_u64, IntKind.wrap_u64, hfn]
          omega
        have HV := Aside0.mk hval
        clear hfb hfn hval hc
        go_region
        go_wp2_with fail
        go_roundg kq1
        case measure => have := HJ.out.2.1; omega
        case rel => exact ⟨j0, (j0 : Int) - 1, by go_num, by rw [← HV.out], ⟨rfl, by have := HJ.out.2.1; omega, by omega⟩, ⟨below_drew HB.out⟩⟩
end Go.Proofs.Ytjehbnhjaogfkaa.Sc
end

section
namespace Go.Proofs.Ytjehbnhjaogfkaa.Sc
open Go.RowKit Go.Lib Go.Maps Go.WideAt Go.WideShapes Go.Proofs.YtjehbnhjaogfkaaW.PrintWords Go.Proofs.YtjehbnhjaogfkaaW.PrintLast Go.Proofs.YtjehbnhjaogfkaaW.PrintMore
open Go.Proofs.Ytjehbnhjaogfkaa
set_option linter.unusedVariables false
set_option linter.unusedSimpArgs false
/-- The document's reader stands as the program's does: the same bytes are left, or both are bad. -/
def At (W : World) (g : Nat) (B : List UInt8) (s : RS) : Prop := ∃ at_, Rr W g B at_ s.bad ∧ (s.bad = false → s.b = B.drop at_)
theorem At.below {W W1 : World} {g : Nat} {B : List UInt8} {s : RS} (h : At W g B s) (hb : Below W.heap.size W W1) : At W1 g B s := by
  obtain ⟨a, h1, h2⟩ := h
  exact ⟨a, h1.below hb, h2⟩
theorem At.lt {W : World} {g : Nat} {B : List UInt8} {s : RS} (h : At W g B s) : g < W.heap.size := by
  obtain ⟨a, h1, h2⟩ := h
  exact blk_lt h1.1
theorem rnum_of_bad {s : RS} (h : s.bad = true) : rnum s = (0, ⟨s.b, true⟩) := by
  unfold rnum rtake
  rw [if_pos (.inl h)]
  simp [fromle, toI, wrap64]
theorem number_at (W : World) (g : Nat) (B : List UInt8) (s : RS) (h : At W g B s) :
    Calls Try.prog 56 #[.pointer (some ⟨g, 0, none⟩)] W fun e W' => e = .returned (.int .i64 (rnum s).1) ∧ At W' g B (rnum s).2 ∧ Fr (Only g) W W' := by
  obtain ⟨a, h1, h2⟩ := h
  obtain ⟨b, bad⟩ := s
  cases bad with
  | true =>
    refine (number_ref W g B a true h1).mono ?_
    rw [rnum_of_bad (s := rs B a true) rfl, rnum_of_bad (s := ⟨b, true⟩) rfl]
    rintro e W' ⟨rfl, at2, k1, k2, k3⟩
    exact ⟨rfl, ⟨at2, k1, fun h => absurd h (by simp)⟩, k3⟩
  | false =>
    obtain rfl : b = B.drop a := h2 rfl
    refine (number_ref W g B a false h1).mono ?_
    rintro e W' ⟨rfl, at2, k1, k2, k3⟩
    exact ⟨rfl, ⟨at2, k1, k2⟩, k3⟩
theorem at_bad {w : World} {g : Nat} {B : List UInt8} {a : Nat} {bad : Bool} (h : Rr w g B a bad) (x : List UInt8) : At (w.setCell ⟨g, 2, none⟩ (.bool true)) g B ⟨x, true⟩ :=
  ⟨a, (show Rr _ g B a true from ⟨blk_put h.1 2 (.bool true) rfl, h.2⟩), fun h => absurd h (by simp)⟩
def rmany (s : RS) : Int × RS := if (rnum s).1 < 0 ∨ 4096 < (rnum s).1 then (0, ⟨(rnum s).2.b, true⟩) else rnum s
set_option maxRecDepth 100000 in
set_option maxHeartbeats 4000000 in
theorem many_at (W : World) (g : Nat) (B : List UInt8) (s : RS) (h : At W g B s) :
    Calls Try.prog 55 #[.pointer (some ⟨g, 0, none⟩)] W fun e W' => e = .returned (.int .i64 (rmany s).1) ∧ At W' g B (rmany s).2 ∧ Fr (Only g) W W' := by
  have H := Aside0.mk h
  obtain ⟨n, hn⟩ : ∃ n, (rnum s).1 = n := ⟨_, rfl⟩
  obtain ⟨s1, hs1⟩ : ∃ s1, (rnum s).2 = s1 := ⟨_, rfl⟩
  have HN := Aside0.mk hn
  have HS := Aside0.mk hs1
  by_cases hc : n < 0 ∨ 4096 < n
  · have hr : rmany s = (0, ⟨s1.b, true⟩) := by unfold rmany; rw [hn, hs1, if_pos hc]
    rw [hr]
    clear h hn hs1 hr
    by_cases h0 : n < 0
    · go_enter Try.func55, Try.ntmps55
      go_wp2_with (go_at_call 56; refine (number_at _ g B s H.out).mono ?_; rw [HN.out, HS.out]; rintro e w1 ⟨rfl, h1, hf1⟩; have HA1 := Aside0.mk h1; obtain ⟨a1, hr1, hb1⟩ := h1; have f2 := blk_frozen hr1.1 2; have c2 := hr1.cells.2.2.1; have HR1 := Aside0.mk hr1; have F1 := Aside0.mk hf1; clear hr1 hf1 hb1)
      go_ret
      exact ⟨rfl, at_bad HR1.out _, F1.out.trans (fr_set w1 g 2 _)⟩
    · have h4 : 4096 < n := hc.resolve_left h0
      go_enter Try.func55, Try.ntmps55
      go_wp2_with (go_at_call 56; refine (number_at _ g B s H.out).mono ?_; rw [HN.out, HS.out]; rintro e w1 ⟨rfl, h1, hf1⟩; have HA1 := Aside0.mk h1; obtain ⟨a1, hr1, hb1⟩ := h1; have f2 := blk_frozen hr1.1 2; have c2 := hr1.cells.2.2.1; have HR1 := Aside0.mk hr1; have F1 := Aside0.mk hf1; clear hr1 hf1 hb1)
      go_ret
      exact ⟨rfl, at_bad HR1.out _, F1.out.trans (fr_set w1 g 2 _)⟩
  · have hr : rmany s = (n, s1) := by unfold rmany; rw [hn, hs1, if_neg hc, ← hn, ← hs1]
    rw [hr]
    have h0 : ¬ n < 0 := fun h => hc (.inl h)
    have h4 : ¬ 4096 < n := fun h => hc (.inr h)
    clear h hn hs1 hr hc
    go_enter Try.func55, Try.ntmps55
    go_wp2_with (go_at_call 56; refine (number_at _ g B s H.out).mono ?_; rw [HN.out, HS.out]; rintro e w1 ⟨rfl, h1, hf1⟩; have HA1 := Aside0.mk h1; obtain ⟨a1, hr1, hb1⟩ := h1; have f2 := blk_frozen hr1.1 2; have c2 := hr1.cells.2.2.1; have HR1 := Aside0.mk hr1; have F1 := Aside0.mk hf1; clear hr1 hf1 hb1)
    go_ret
    exact ⟨rfl, HA1.out, F1.out⟩
theorem ext_mid (B : List UInt8) (i k : Nat) : (str B).extract i (i + k) = str ((B.drop i).take k) := by
  apply ba_ext
  simp [str, ByteArray.data_extract]
set_option maxRecDepth 100000 in
set_option maxHeartbeats 8000000 in
theorem text_at (W : World) (g : Nat) (B : List UInt8) (s : RS) (h : At W g B s) :
    Calls Try.prog 54 #[.pointer (some ⟨g, 0, none⟩)] W fun e W' => e = .returned (.string (str (rtext s).1)) ∧ At W' g B (rtext s).2 ∧ Fr (Only g) W W' := by
  have H := Aside0.mk h
  obtain ⟨n, hn⟩ : ∃ n, (rnum s).1 = n := ⟨_, rfl⟩
  obtain ⟨⟨b1, bad1⟩, hs1⟩ : ∃ s1, (rnum s).2 = s1 := ⟨_, rfl⟩
  have ht : rtext s = rtake ⟨b1, bad1⟩ n := by unfold rtext; rw [hn, hs1]
  have HN := Aside0.mk hn
  have HS := Aside0.mk hs1
  have hsz := str_size B
  obtain ⟨⟨x, sx⟩, hR⟩ : ∃ R, rtake ⟨b1, bad1⟩ n = R := ⟨_, rfl⟩
  rw [ht, hR]
  have HR := Aside0.mk hR
  clear h hn hs1 ht hR
  go_enter Try.func54, Try.ntmps54
  go_upto_region 2 with (go_at_call 56; refine (number_at _ g B s H.out).mono ?_; rw [HN.out, HS.out]; rintro e w1 ⟨rfl, h1, hf1⟩; obtain ⟨a1, hr1, hb1⟩ := h1; obtain ⟨c0, c1, c2, f1, f2⟩ := hr1.cells; have HR1 := Aside0.mk hr1; have F1 := Aside0.mk hf1; have HBb := Aside0.mk hb1; clear hr1 hf1 hb1)
  by_cases hc : bad1 = true ∨ n < 0 ∨ (b1.length : Int) < n
  · have hr : ([], (⟨b1, true⟩ : RS)) = (x, sx) := by rw [← HR.out]; exact (if_pos hc).symm
    obtain ⟨rfl, rfl⟩ := Prod.mk.inj hr
    clear hr
    cases bad1 with
    | true =>
      go_quiet (fail)
      go_wp2_with fail
      have hq := pw_below_drewN (Below.refl w1.heap.size w1) nq
      have HZ := Aside0.mk (at_bad (HR1.out.below hq) b1)
      have HZf := Aside0.mk ((F1.out.drewN nq).trans (fr_set (w1.drewN nq) g 2 (.bool true)))
      clear hq
      go_ret
      exact ⟨rfl, HZ.out, HZf.out⟩
    | false =>
      obtain rfl : b1 = B.drop a1 := HBb.out rfl
      by_cases h0 : n < 0
      · clear hc
        go_quiet (fail)
        go_wp2_with fail
        have hq := pw_below_drewN (Below.refl w1.heap.size w1) nq
        have HZ := Aside0.mk (at_bad (HR1.out.below hq) (B.drop a1))
        have HZf := Aside0.mk ((F1.out.drewN nq).trans (fr_set (w1.drewN nq) g 2 (.bool true)))
        clear hq
        go_ret
        exact ⟨rfl, HZ.out, HZf.out⟩
      · have hgt : (B.length : Int) - (a1 : Int) < n := by
          rcases hc with h | h | h
          · cases h
          · exact absurd h h0
          · have := HR1.out.2.1; rw [List.length_drop] at h; omega
        have hal := HR1.out.2.1
        have hbl := HR1.out.2.2
        clear hc
        go_quiet (fail)
        go_wp2_with fail
        have hq := pw_below_drewN (Below.refl w1.heap.size w1) nq
        have HZ := Aside0.mk (at_bad (HR1.out.below hq) (B.drop a1))
        have HZf := Aside0.mk ((F1.out.drewN nq).trans (fr_set (w1.drewN nq) g 2 (.bool true)))
        clear hq
        go_ret
        exact ⟨rfl, HZ.out, HZf.out⟩
  · have hr : (b1.take n.toNat, (⟨b1.drop n.toNat, bad1⟩ : RS)) = (x, sx) := by rw [← HR.out]; exact (if_neg hc).symm
    obtain ⟨rfl, rfl⟩ := Prod.mk.inj hr
    clear hr
    have hb : bad1 = false := by cases bad1 <;> simp_all
    subst hb
    obtain rfl : b1 = B.drop a1 := HBb.out rfl
    have hal := HR1.out.2.1
    have hbl := HR1.out.2.2
    rw [List.length_drop] at hc
    obtain ⟨k, rfl⟩ := Int.eq_ofNat_of_zero_le (show 0 ≤ n by omega)
    have h0 : ¬ (k : Int) < 0 := by omega
    have hgt : ¬ (B.length : Int) - (a1 : Int) < (k : Int) := by omega
    have hak : a1 + k ≤ B.length := by omega
    have hi1 : (0 : Int) ≤ (a1 : Int) + (k : Int) := by omega
    have hi2 : (a1 : Int) + (k : Int) ≤ (B.length : Int) := by omega
    have hi3 : (a1 : Int) ≤ (a1 : Int) + (k : Int) := by omega
    have HE := Aside0.mk (ext_mid B a1 k)
    clear hc
    go_quiet (fail)
    go_upto_region 5 with fail
    go_region
    have HZ := Aside0.mk (fun w' (hb : Below w1.heap.size w1 w') => (⟨⟨a1 + k, (show Rr _ g B (a1 + k) false from ⟨by rw [Int.natCast_add]; exact blk_put (HR1.out.below hb).1 1 (.int .i64 ((a1 : Int) + (k : Int))) rfl, hak, hbl⟩), fun _ => rfl⟩, (F1.out.trans (Fr.of_below hb)).set (p := ⟨g, 1, none⟩) (.inl rfl) _⟩ : At (w'.setCell ⟨g, 1, none⟩ (.int .i64 ((a1 : Int) + (k : Int)))) g B ⟨B.drop (a1 + k), false⟩ ∧ Fr (Only g) W (w'.setCell ⟨g, 1, none⟩ (.int .i64 ((a1 : Int) + (k : Int))))))
    go_wp2_with fail
    rw [HE.out]
    go_ret
    exact ⟨rfl, HZ.out _ (below_drew (pw_below_drewN (Below.refl _ _) _))⟩
end Go.Proofs.Ytjehbnhjaogfkaa.Sc
end

section
namespace Go.Proofs.Ytjehbnhjaogfkaa.Sc
open Go.RowKit Go.Lib Go.Maps Go.WideAt Go.WideShapes Go.Proofs.YtjehbnhjaogfkaaW.PrintWords Go.Proofs.YtjehbnhjaogfkaaW.PrintLast Go.Proofs.YtjehbnhjaogfkaaW.PrintMore
open Go.Proofs.Ytjehbnhjaogfkaa
set_option linter.unusedVariables false
set_option linter.unusedSimpArgs false
theorem rfl'_of_bad {s : RS} (h : s.bad = true) : rfl' s = (false, s) := by unfold rfl'; rw [if_pos h]
theorem rfl'_nil {b : List UInt8} (h : b = []) : rfl' ⟨b, false⟩ = (false, ⟨[], true⟩) := by subst h; rfl
theorem rfl'_cons (c : UInt8) (r : List UInt8) : rfl' ⟨c :: r, false⟩ = if 1 < c.toNat then (false, ⟨r, true⟩) else (decide (c.toNat = 1), ⟨r, false⟩) := by
  unfold rfl' rflag
  rw [if_neg (by simp)]
  have e : rtake ⟨c :: r, false⟩ 1 = ([c], ⟨r, false⟩) := by
    have := rtake_there [c] r
    exact this
  rw [e]
  rfl
set_option maxRecDepth 100000 in
set_option maxHeartbeats 8000000 in
theorem flag_at (W : World) (g : Nat) (B : List UInt8) (s : RS) (h : At W g B s) :
    Calls Try.prog 57 #[.pointer (some ⟨g, 0, none⟩)] W fun e W' => e = .returned (.bool (rfl' s).1) ∧ At W' g B (rfl' s).2 ∧ Fr (Only g) W W' := by
  obtain ⟨a, hr, hb⟩ := h
  obtain ⟨b, bad⟩ := s
  simp only at hr hb
  have hsz := str_size B
  have hal := hr.2.1
  have hbl := hr.2.2
  obtain ⟨c0, c1, c2, f1, f2⟩ := hr.cells
  have HR := Aside0.mk hr
  have HZ := Aside0.mk (fun n (x : List UInt8) => (⟨at_bad (hr.below (pw_below_drewN (Below.refl W.heap.size W) n)) x, ((Fr.refl (Only g) W).drewN n).trans (fr_set (W.drewN n) g 2 (.bool true))⟩ : At ((W.drewN n).setCell ⟨g, 2, none⟩ (.bool true)) g B ⟨x, true⟩ ∧ Fr (Only g) W ((W.drewN n).setCell ⟨g, 2, none⟩ (.bool true))))
  cases bad with
  | true =>
    rw [rfl'_of_bad rfl]
    clear hr hb
    go_enter Try.func57, Try.ntmps57
    go_upto_region 1 with fail
    go_quiet (fail)
    go_wp2_with fail
    go_ret
    exact ⟨rfl, HZ.out _ b⟩
  | false =>
    obtain rfl : b = B.drop a := hb rfl
    by_cases hge : B.length ≤ a
    · rw [rfl'_nil (List.drop_of_length_le hge)]
      have hgi : (B.length : Int) ≤ (a : Int) := by omega
      clear hr hb
      go_enter Try.func57, Try.ntmps57
      go_upto_region 1 with fail
      go_quiet (fail)
      go_wp2_with fail
      go_ret
      exact ⟨rfl, HZ.out _ []⟩
    · have hlt : a < B.length := by omega
      have hgi : ¬ (B.length : Int) ≤ (a : Int) := by omega
      have hgi2 : (a : Int) < (B.length : Int) := by omega
      obtain ⟨c, hc⟩ : ∃ c, B[a] = c := ⟨_, rfl⟩
      have hx : ∀ hh, ((str B)[a]'hh) = c := fun hh => hc
      rw [List.drop_eq_getElem_cons hlt, hc, rfl'_cons]
      have hcl := c.toNat_lt
      have HHlt := Aside0.mk hlt
      by_cases hc1 : 1 < c.toNat
      · rw [if_pos hc1]
        have hci : (1 : Int) < (c.toNat : Int) := by omega
        clear hr hb hc hlt hge
        go_enter Try.func57, Try.ntmps57
        go_upto_region 1 with fail
        go_region
        go_wp2_with fail
        go_ret
        exact ⟨rfl, (at_bad HR.out _).below (below_drew (Below.refl _ _)), (fr_set W g 2 _).drew⟩
      · rw [if_neg hc1]
        have hci : ¬ (1 : Int) < (c.toNat : Int) := by omega
        have HZ2 := Aside0.mk (fun w' (hb : Below W.heap.size W w') => (⟨⟨a + 1, (show Rr _ g B (a + 1) false from ⟨by rw [Int.natCast_add]; exact blk_put (hr.below hb).1 1 (.int .i64 ((a : Int) + 1)) rfl, hlt, hbl⟩), fun _ => rfl⟩, (Fr.of_below (S := Only g) hb).set (p := ⟨g, 1, none⟩) (.inl rfl) _⟩ : At (w'.setCell ⟨g, 1, none⟩ (.int .i64 ((a : Int) + 1))) g B ⟨B.drop (a + 1), false⟩ ∧ Fr (Only g) W (w'.setCell ⟨g, 1, none⟩ (.int .i64 ((a : Int) + 1)))))
        clear hr hb hc hlt hge
        rcases (show c.toNat = 0 ∨ c.toNat = 1 by omega) with h01 | h01
        · have h01i : (c.toNat : Int) = 0 := by omega
          rw [h01]
          go_enter Try.func57, Try.ntmps57
          go_upto_region 1 with fail
          go_region
          go_upto_region 5 with fail
          go_region
          go_wp2_with fail
          go_ret
          exact ⟨rfl, (HZ2.out W (Below.refl _ _)).1.below (below_drew (below_drew (Below.refl _ _))), (HZ2.out W (Below.refl _ _)).2.drew.drew⟩
        · have h01i : (c.toNat : Int) = 1 := by omega
          rw [h01]
          go_enter Try.func57, Try.ntmps57
          go_upto_region 1 with fail
          go_region
          go_upto_region 5 with fail
          go_region
          go_wp2_with fail
          go_ret
          exact ⟨rfl, (HZ2.out W (Below.refl _ _)).1.below (below_drew (below_drew (Below.refl _ _))), (HZ2.out W (Below.refl _ _)).2.drew.drew⟩
end Go.Proofs.Ytjehbnhjaogfkaa.Sc
end

section
namespace Go.Proofs.Ytjehbnhjaogfkaa.Sc
open Go.RowKit Go.Lib Go.Maps Go.WideAt Go.WideShapes Go.Proofs.YtjehbnhjaogfkaaW.PrintWords Go.Proofs.YtjehbnhjaogfkaaW.PrintLast Go.Proofs.YtjehbnhjaogfkaaW.PrintMore
open Go.Proofs.Ytjehbnhjaogfkaa
set_option linter.unusedVariables false
set_option linter.unusedSimpArgs false
/-- The state of the document's reader of a schema: the local schema at block p, the result's at block q. -/
structure SI (W w : World) (g q p : Nat) (B : List UInt8) (u0 u1 u2 u3 : Value) (s : RS) : Prop where
  bx : TbBox w p u0 u1 u2 u3
  bz : TbBox w q (.string ⟨#[]⟩) (.slice none 0 0) (.int .i64 0) (.slice none 0 0)
  at_ : At w g B s
  fr : Fr (Only g) W w
theorem At.far {W : World} {g : Nat} {B : List UInt8} {s : RS} (h : At W g B s) {p : Addr} (hp : p.block ≠ g) (v : Value) : At (W.setCell p v) g B s := by
  obtain ⟨a, h1, h2⟩ := h
  exact ⟨a, ⟨(Below.heap_setCell W p v g (fun e => hp e.symm)).trans h1.1, h1.2⟩, h2⟩
theorem At.cell {W : World} {g : Nat} {B : List UInt8} {s : RS} (h : At W g B s) : W.cell? ⟨g, 2, none⟩ = some (.bool s.bad) := by
  obtain ⟨a, h1, h2⟩ := h
  exact h1.cells.2.2.1
theorem SI.call {W w w1 : World} {g q p : Nat} {B : List UInt8} {u0 u1 u2 u3 : Value} {s s1 : RS} (h : SI W w g q p B u0 u1 u2 u3 s) (hg : g < q) (hq : q < p) (ha : At w1 g B s1) (hf : Fr (Only g) w w1) : SI W w1 g q p B u0 u1 u2 u3 s1 :=
  ⟨h.bx.fr hf (by unfold Only; omega), h.bz.fr hf (by unfold Only; omega), ha, h.fr.trans hf⟩
theorem SI.low {W w w1 : World} {g q p m : Nat} {B : List UInt8} {u0 u1 u2 u3 : Value} {s : RS} (h : SI W w g q p B u0 u1 u2 u3 s) (hg : g < q) (hq : q < p) (hm : p < m) (hW : W.heap.size ≤ m) (hb : Below m w w1) : SI W w1 g q p B u0 u1 u2 u3 s :=
  ⟨h.bx.keep hb hm, h.bz.keep hb (by omega), (by
    obtain ⟨a, h1, h2⟩ := h.at_
    exact ⟨a, ⟨(hb.block g (by omega)).trans h1.1, h1.2⟩, h2⟩), fr_low h.fr (hb.mono hW)⟩
theorem SI.put1 {W w : World} {g q p : Nat} {B : List UInt8} {u0 u1 u2 u3 : Value} {s : RS} (h : SI W w g q p B u0 u1 u2 u3 s) (hg : g < q) (hq : q < p) (hW : W.heap.size ≤ p) (u : Value) : SI W (w.setCell ⟨p, 1, none⟩ u) g q p B u0 u u2 u3 s :=
  ⟨h.bx.set1 u, h.bz.far (p := ⟨p, 1, none⟩) (fun e => by simp at e; omega) u, h.at_.far (p := ⟨p, 1, none⟩) (fun e => by simp at e; omega) u, h.fr.set (p := ⟨p, 1, none⟩) (.inr hW) u⟩
theorem SI.put2 {W w : World} {g q p : Nat} {B : List UInt8} {u0 u1 u2 u3 : Value} {s : RS} (h : SI W w g q p B u0 u1 u2 u3 s) (hg : g < q) (hq : q < p) (hW : W.heap.size ≤ p) (u : Value) : SI W (w.setCell ⟨p, 2, none⟩ u) g q p B u0 u1 u u3 s :=
  ⟨h.bx.set2 u, h.bz.far (p := ⟨p, 2, none⟩) (fun e => by simp at e; omega) u, h.at_.far (p := ⟨p, 2, none⟩) (fun e => by simp at e; omega) u, h.fr.set (p := ⟨p, 2, none⟩) (.inr hW) u⟩
theorem SI.put3 {W w : World} {g q p : Nat} {B : List UInt8} {u0 u1 u2 u3 : Value} {s : RS} (h : SI W w g q p B u0 u1 u2 u3 s) (hg : g < q) (hq : q < p) (hW : W.heap.size ≤ p) (u : Value) : SI W (w.setCell ⟨p, 3, none⟩ u) g q p B u0 u1 u2 u s :=
  ⟨h.bx.set3 u, h.bz.far (p := ⟨p, 3, none⟩) (fun e => by simp at e; omega) u, h.at_.far (p := ⟨p, 3, none⟩) (fun e => by simp at e; omega) u, h.fr.set (p := ⟨p, 3, none⟩) (.inr hW) u⟩
theorem rmany_list {α : Type} {each : RS → α × RS} (s : RS) : rloop each (rmany s).1.toNat [] (rmany s).2 = rlist each s := by
  unfold rmany rlist
  by_cases h : (rnum s).1 < 0 ∨ 4096 < (rnum s).1
  · rw [if_pos h]
    have e : ((rnum s).2.bad || decide ((rnum s).1 < 0) || decide (4096 < (rnum s).1)) = true := by
      rcases h with h | h <;> simp [h]
    rw [e]
    exact (rloop_bad _ _ _ rfl).trans (rloop_bad _ _ _ rfl).symm
  · rw [if_neg h]
    have e : ((rnum s).2.bad || decide ((rnum s).1 < 0) || decide (4096 < (rnum s).1)) = (rnum s).2.bad := by
      have h1 : ¬ (rnum s).1 < 0 := fun h0 => h (.inl h0)
      have h2 : ¬ 4096 < (rnum s).1 := fun h0 => h (.inr h0)
      simp [h1, h2]
    rw [e]
theorem rmany_range (s : RS) : 0 ≤ (rmany s).1 ∧ (rmany s).1 ≤ 4096 := by
  unfold rmany
  split
  · simp
  · next h => exact ⟨by have : ¬ (rnum s).1 < 0 := fun h0 => h (.inl h0); omega, by have : ¬ 4096 < (rnum s).1 := fun h0 => h (.inr h0); omega⟩
/-- A row of the call's own, from m on, lives on where the reader goes on. -/
theorem R_call {α : Type} {d : Kd α} {e m g : Nat} {ok : Nat → Prop} {w w1 : World} {v : Value} {xs : List α} (h : d.R e w m ok v xs) (hf : Fr (Only g) w w1) (hg : g < m) : d.R e w1 m ok v xs :=
  Kd.R_mono (Kd.R_move (Kd.R_bound h) fun k hk => hf.block k hk.2.2.1 fun e => by have := hk.2.1; unfold Only at e; omega) fun k hk => hk.1
theorem R_put {α : Type} {d : Kd α} {e p m : Nat} {ok : Nat → Prop} {w : World} {v : Value} {xs : List α} (h : d.R e w m ok v xs) (hp : p < m) (i : Nat) (u : Value) : d.R e (w.setCell ⟨p, i, none⟩ u) m ok v xs :=
  Kd.R_mono (Kd.R_far (Kd.R_bound h) (p := ⟨p, i, none⟩) (fun k hk => by have := hk.2.1; simp; omega) u) fun k hk => hk.1
end Go.Proofs.Ytjehbnhjaogfkaa.Sc
end

section
namespace Go.Proofs.Ytjehbnhjaogfkaa.Sc
open Go.RowKit Go.Lib Go.Maps Go.WideAt Go.WideShapes Go.Proofs.YtjehbnhjaogfkaaW.PrintWords Go.Proofs.YtjehbnhjaogfkaaW.PrintLast Go.Proofs.YtjehbnhjaogfkaaW.PrintMore
open Go.Proofs.Ytjehbnhjaogfkaa
set_option linter.unusedVariables false
set_option linter.unusedSimpArgs false
def T33_7 : Bool × List (List Nat × List Nat) := (true, [([], []), ([0], [0]), ([], []), ([], []), ([3], [3]), ([2, 4], [2, 4]), ([5], [5]), ([1, 6, 4], [1, 6]), ([0, 1, 2, 3, 4, 5, 6, 7], []), ([8, 7, 7, 0, 1, 2, 3, 4, 5, 6, 7], [7, 8])])
theorem t33_7 : Go.Proofs.YtjehbnhjaogfkaaW.PrintLast.rtab .any (opsOf Try.f33 7) = T33_7 := by kernel_rfl
theorem b33_7 : waitsOk T33_7.2 [0, 1, 0, 0, 8, 28, 60, 127, 255, 511] = true := by kernel_rfl
def T33_18 : Bool × List (List Nat × List Nat) := (true, [([], []), ([0], [0]), ([], []), ([2], [2]), ([3], [3]), ([1, 4, 3], [1, 4]), ([0, 1, 2, 3, 4, 5], []), ([6, 5, 5, 0, 1, 2, 3, 4, 5], [5, 6])])
theorem t33_18 : Go.Proofs.YtjehbnhjaogfkaaW.PrintLast.rtab .any (opsOf Try.f33 18) = T33_18 := by kernel_rfl
theorem b33_18 : waitsOk T33_18.2 [0, 1, 0, 4, 12, 31, 63, 127] = true := by kernel_rfl
structure XI (W w : World) (g q p m px : Nat) (B : List UInt8) (u0 : Value) (v1 : Value) (cols : List Col) (ky : Int) (v3 : Value) (acc : List Ix) (xn : ByteArray) (vx : Value) (ax : List Int) (s : RS) : Prop where
  si : SI W w g q p B u0 v1 (.int .i64 ky) v3 s
  r1 : kcol.R 32 w (p + 1) (fun k => k < m) v1 cols
  r3 : kix.R 67 w m (fun k => k < px) v3 acc
  bx : w.heap[px]? = some (.cells #[.string xn, vx, .bool false] 67 (0, 0))
  rx : (Kd.int .i64).R 3 w (px + 1) (fun _ => True) vx ax
theorem R_low1 {α : Type} {d : Kd α} {e b m : Nat} {w w1 : World} {v : Value} {xs : List α} (h : d.R e w b (fun k => k < m) v xs) {m2 : Nat} (hb : Below m2 w w1) (hm : m ≤ m2) : d.R e w1 b (fun k => k < m) v xs :=
  Kd.R_move h fun k hk => hb.block k (Nat.lt_of_lt_of_le hk hm)
theorem XI.call {W w w1 : World} {g q p m px : Nat} {B : List UInt8} {u0 v1 v3 vx : Value} {cols : List Col} {ky : Int} {acc : List Ix} {xn : ByteArray} {ax : List Int} {s s1 : RS} (h : XI W w g q p m px B u0 v1 cols ky v3 acc xn vx ax s) (hg : g < q) (hq : q < p) (hm : p < m) (hp : m ≤ px) (ha : At w1 g B s1) (hf : Fr (Only g) w w1) : XI W w1 g q p m px B u0 v1 cols ky v3 acc xn vx ax s1 :=
  ⟨h.si.call hg hq ha hf, R_call h.r1 hf (by omega), R_call h.r3 hf (by omega), (hf.block px (blk_lt h.bx) (by unfold Only; omega)).trans h.bx, R_call h.rx hf (by omega)⟩
theorem XI.drew {W w : World} {g q p m px : Nat} {B : List UInt8} {u0 v1 v3 vx : Value} {cols : List Col} {ky : Int} {acc : List Ix} {xn : ByteArray} {ax : List Int} {s : RS} (h : XI W w g q p m px B u0 v1 cols ky v3 acc xn vx ax s) (hg : g < q) (hq : q < p) (hW : W.heap.size ≤ p) (hm : p < m) : XI W w.drew g q p m px B u0 v1 cols ky v3 acc xn vx ax s :=
  ⟨h.si.low hg hq (Nat.lt_succ_self p) (by omega) (below_drew (Below.refl _ w)), Kd.R_drew h.r1, Kd.R_drew h.r3, h.bx, Kd.R_drew h.rx⟩
theorem XI.app {W w w1 : World} {g q p m px : Nat} {B : List UInt8} {u0 v1 v3 vx v' : Value} {cols : List Col} {ky : Int} {acc : List Ix} {xn : ByteArray} {ax ax' : List Int} {s : RS} (h : XI W w g q p m px B u0 v1 cols ky v3 acc xn vx ax s) (hg : g < q) (hq : q < p) (hW : W.heap.size ≤ p) (hm : p < m) (hp : m ≤ px) (hb : Below (px + 1) w w1) (hr : (Kd.int .i64).R 3 w1 (px + 1) (fun _ => True) v' ax') : XI W (w1.setCell ⟨px, 1, none⟩ v') g q p m px B u0 v1 cols ky v3 acc xn v' ax' s := by
  have hs := h.si.low hg hq (m := px + 1) (by omega) (by omega) hb
  refine ⟨⟨hs.bx.far (p := ⟨px, 1, none⟩) (fun e => by simp at e; omega) v', hs.bz.far (p := ⟨px, 1, none⟩) (fun e => by simp at e; omega) v', hs.at_.far (p := ⟨px, 1, none⟩) (fun e => by simp at e; omega) v', hs.fr.set (p := ⟨px, 1, none⟩) (.inr (by show W.heap.size ≤ px; omega)) v'⟩, Kd.R_far (R_low1 h.r1 hb (by omega)) (p := ⟨px, 1, none⟩) (fun k hk => by simp; omega) v', Kd.R_far (R_low1 h.r3 hb (by omega)) (p := ⟨px, 1, none⟩) (fun k hk => by simp; omega) v', blk_put ((hb.block px (by omega)).trans h.bx) 1 v' rfl, R_put hr (Nat.lt_succ_self px) 1 v'⟩
theorem XI.flag {W w : World} {g q p m px : Nat} {B : List UInt8} {u0 v1 v3 vx : Value} {cols : List Col} {ky : Int} {acc : List Ix} {xn : ByteArray} {ax : List Int} {s : RS} (h : XI W w g q p m px B u0 v1 cols ky v3 acc xn vx ax s) (hg : g < q) (hq : q < p) (hW : W.heap.size ≤ p) (hm : p < m) (hp : m ≤ px) (u : Bool) :
    SI W (w.setCell ⟨px, 2, none⟩ (.bool u)) g q p B u0 v1 (.int .i64 ky) v3 s ∧ kcol.R 32 (w.setCell ⟨px, 2, none⟩ (.bool u)) (p + 1) (fun k => k < m) v1 cols ∧ kix.R 67 (w.setCell ⟨px, 2, none⟩ (.bool u)) m (fun k => k < px) v3 acc ∧ (w.setCell ⟨px, 2, none⟩ (.bool u)).heap[px]? = some (.cells #[.string xn, vx, .bool u] 67 (0, 0)) ∧ (Kd.int .i64).R 3 (w.setCell ⟨px, 2, none⟩ (.bool u)) (px + 1) (fun _ => True) vx ax := by
  have hs := h.si
  exact ⟨⟨hs.bx.far (p := ⟨px, 2, none⟩) (fun e => by simp at e; omega) _, hs.bz.far (p := ⟨px, 2, none⟩) (fun e => by simp at e; omega) _, hs.at_.far (p := ⟨px, 2, none⟩) (fun e => by simp at e; omega) _, hs.fr.set (p := ⟨px, 2, none⟩) (.inr (by show W.heap.size ≤ px; omega)) _⟩, Kd.R_far h.r1 (p := ⟨px, 2, none⟩) (fun k hk => by simp; omega) _, Kd.R_far h.r3 (p := ⟨px, 2, none⟩) (fun k hk => by simp; omega) _, blk_put h.bx 2 _ rfl, R_put h.rx (Nat.lt_succ_self px) 2 _⟩
set_option maxRecDepth 100000 in
set_option maxHeartbeats 8000000 in
theorem rschema_walk (W : World) (g : Nat) (B : List UInt8) (s : RS) (h : At W g B s) :
    Calls Try.prog 33 #[.pointer (some ⟨g, 0, none⟩)] W fun e W' => ∃ v, e = .returned v ∧ OwnTb (fun _ => True) W.heap.size W' v (rtab s).1 ∧ At W' g B (rtab s).2 ∧ Fr (Only g) W W' := by
  obtain ⟨q, hq⟩ : ∃ q, W.heap.size = q := ⟨_, rfl⟩
  have hgq : g < q := by have := h.lt; omega
  have H := Aside0.mk (h.below (below_alloc (Below.refl _ W) (.cells #[.string ⟨#[]⟩, .slice none 0 0, .int .i64 0, .slice none 0 0] 30)))
  have HF := Aside0.mk ((Fr.refl (Only g) W).alloc (.cells #[.string ⟨#[]⟩, .slice none 0 0, .int .i64 0, .slice none 0 0] 30))
  have HX := Aside0.mk (show TbBox (W.alloc (.cells #[.string ⟨#[]⟩, .slice none 0 0, .int .i64 0, .slice none 0 0] 30)) q (.string ⟨#[]⟩) (.slice none 0 0) (.int .i64 0) (.slice none 0 0) from hq ▸ tbBox_made W _ _ _ _ _)
  have hle : W.heap.size ≤ q := Nat.le_of_eq hq
  have HQ := Aside0.mk hq
  obtain ⟨nm, hnm⟩ : ∃ nm, (rtext s).1 = nm := ⟨_, rfl⟩
  obtain ⟨s1, hs1⟩ : ∃ s1, (rtext s).2 = s1 := ⟨_, rfl⟩
  obtain ⟨n1, hn1⟩ : ∃ n1, (rmany s1).1 = n1 := ⟨_, rfl⟩
  obtain ⟨t1, ht1⟩ : ∃ t1, (rmany s1).2 = t1 := ⟨_, rfl⟩
  obtain ⟨cols, hcl⟩ : ∃ cols, (rlist rcol s1).1 = cols := ⟨_, rfl⟩
  obtain ⟨s2, hs2⟩ : ∃ s2, (rlist rcol s1).2 = s2 := ⟨_, rfl⟩
  obtain ⟨ky, hky⟩ : ∃ ky, (rnum s2).1 = ky := ⟨_, rfl⟩
  obtain ⟨s3, hs3⟩ : ∃ s3, (rnum s2).2 = s3 := ⟨_, rfl⟩
  obtain ⟨n2, hn2⟩ : ∃ n2, (rmany s3).1 = n2 := ⟨_, rfl⟩
  obtain ⟨t3, ht3⟩ : ∃ t3, (rmany s3).2 = t3 := ⟨_, rfl⟩
  obtain ⟨ixs, hix⟩ : ∃ ixs, (rlist rix s3).1 = ixs := ⟨_, rfl⟩
  obtain ⟨s4, hs4⟩ : ∃ s4, (rlist rix s3).2 = s4 := ⟨_, rfl⟩
  have hE : rtab s = (⟨str nm, cols, ky, ixs⟩, s4) := by unfold rtab; simp only; rw [hnm, hs1, hcl, hs2, hky, hs3, hix, hs4]
  rw [hE]
  have HL1 := Aside0.mk (show rloop rcol n1.toNat [] t1 = (cols, s2) by rw [← hn1, ← ht1, rmany_list, ← hcl, ← hs2])
  have HL2 := Aside0.mk (show rloop rix n2.toNat [] t3 = (ixs, s4) by rw [← hn2, ← ht3, rmany_list, ← hix, ← hs4])
  have hn1r : 0 ≤ n1 ∧ n1 ≤ 4096 := hn1 ▸ rmany_range s1
  have hn2r : 0 ≤ n2 ∧ n2 ≤ 4096 := hn2 ▸ rmany_range s3
  have HN := Aside0.mk hnm
  have HS1 := Aside0.mk hs1
  have HN1 := Aside0.mk hn1
  have HT1 := Aside0.mk ht1
  have HKy := Aside0.mk hky
  have HS3 := Aside0.mk hs3
  have HN2 := Aside0.mk hn2
  have HT3 := Aside0.mk ht3
  clear h hnm hs1 hn1 ht1 hcl hs2 hky hs3 hn2 ht3 hix hs4 hE
  go_enter Try.func33, Try.ntmps33
  go_wp2_with fail
  clear hq
  have hsz0 := HX.out.lt
  generalize W.alloc (.cells #[.string ⟨#[]⟩, .slice none 0 0, .int .i64 0, .slice none 0 0] 30) = w0 at *
  refine (text_at w0 g B s H.out).mono ?_
  rw [HN.out, HS1.out]
  rintro e w1 ⟨rfl, h1, hf1⟩
  obtain ⟨p, hp⟩ : ∃ p, w1.heap.size = p := ⟨_, rfl⟩
  have hqp : q < p := by have := hf1.size; omega
  have HSI := Aside0.mk (show SI W (w1.alloc (.cells #[.string (str nm), .slice none 0 0, .int .i64 0, .slice none 0 0] 30)) g q p B (.string (str nm)) (.slice none 0 0) (.int .i64 0) (.slice none 0 0) s1 from
    ⟨hp ▸ tbBox_made w1 _ _ _ _ _, (HX.out.fr hf1 (fun e => by unfold Only at e; omega)).keep (below_alloc (Below.refl _ _) _) (by omega), h1.below (below_alloc (Below.refl _ _) _), (HF.out.trans hf1).alloc _⟩)
  have hWp : W.heap.size ≤ p := by omega
  clear h1 hf1
  go_wp2_with fail
  have hs0 : p + 1 ≤ (w1.alloc (.cells #[.string (str nm), .slice none 0 0, .int .i64 0, .slice none 0 0] 30)).heap.size := by have := HSI.out.bx.lt; omega
  clear hp
  generalize w1.alloc (.cells #[.string (str nm), .slice none 0 0, .int .i64 0, .slice none 0 0] 30) = w2 at *
  refine (many_at w2 g B s1 HSI.out.at_).mono ?_
  rw [HN1.out, HT1.out]
  rintro e w3 ⟨rfl, h3, hf3⟩
  have HS3' := Aside0.mk (HSI.out.call hgq hqp h3 hf3)
  have hs3' : p + 1 ≤ w3.heap.size := Nat.le_trans hs0 hf3.size
  clear h3 hf3
  go_wp2_with fail
  go_loopg [5] (n1.toNat + 2) (fun kq v5 w' => ∃ (j : Nat) (acc : List Col) (v1 : Value) (s5 : RS), v5 = .int .i64 (j : Int) ∧ Aside0 (j + kq = n1.toNat + 2 ∧ j ≤ n1.toNat ∧ acc.length = j) ∧ Aside0 (rloop rcol (n1.toNat - j) acc s5 = (cols, s2)) ∧ Aside0 (kcol.R 32 w' (p + 1) (fun _ => True) v1 acc) ∧ Aside0 (SI W w' g q p B (.string (str nm)) v1 (.int .i64 0) (.slice none 0 0) s5))
  case atStart => exact ⟨0, [], _, t1, rfl, ⟨by omega, Nat.zero_le _, rfl⟩, HL1, ⟨Kd.R_nil _ _ _ _ _⟩, HS3'⟩
  case round =>
    clear HL1 HS3'
    obtain ⟨j, acc, v1, ⟨b5, bad5⟩, rfl, HJ, HL, HR, HI⟩ := hrel
    have x2 : wr.cell? ⟨g, 2, none⟩ = some (.bool bad5) := HI.out.at_.cell
    have hji : (0 : Int) ≤ (j : Int) := by omega
    obtain ⟨go, hgo⟩ : ∃ go, (decide (j < n1.toNat) && !bad5) = go := ⟨_, rfl⟩
    have HGo := Aside0.mk hgo
    clear hgo
    go_upto_region 4 with fail
    go_cut [25] (fun v25 wd => v25 = .bool go ∧ Aside0 (wd = wr))
    case first =>
      by_cases hj : j < n1.toNat
      · have hjn : (j : Int) < n1 := by omega
        cases bad5 with
        | true =>
          obtain rfl : go = false := by rw [← HGo.out]; simp
          go_wp2_with fail
          go_meet
          exact ⟨rfl, ⟨rfl⟩⟩
        | false =>
          obtain rfl : go = true := by rw [← HGo.out]; simp [hj]
          go_wp2_with fail
          go_meet
          exact ⟨rfl, ⟨rfl⟩⟩
      · have hjn : ¬ (j : Int) < n1 := by omega
        obtain rfl : go = false := by rw [← HGo.out]; simp [hj]
        go_wp2_with fail
        go_meet
        exact ⟨rfl, ⟨rfl⟩⟩
    case rest =>
    obtain ⟨rfl, HWc⟩ := hcut
    obtain rfl := HWc.out
    cases go with
    | true =>
      have hj : j < n1.toNat := by have h := HGo.out; simp at h; omega
      obtain rfl : bad5 = false := by have h := HGo.out; simp at h; exact h.2
      obtain ⟨kq1, rfl⟩ : ∃ kq1, gk = kq1 + 1 := ⟨gk - 1, by have := HJ.out.1; omega⟩
      obtain ⟨k1, hk1⟩ : ∃ k1, n1.toNat - j = k1 + 1 := ⟨n1.toNat - j - 1, by omega⟩
      have hR := HL.out
      rw [hk1] at hR
      have hR2 : rloop rcol k1 (acc ++ [(rcol ⟨b5, false⟩).1]) (rcol ⟨b5, false⟩).2 = (cols, s2) := by rw [← hR]; rfl
      obtain ⟨x, hx⟩ : ∃ x, (rtext ⟨b5, false⟩).1 = x := ⟨_, rfl⟩
      obtain ⟨s6, hs6⟩ : ∃ s6, (rtext ⟨b5, false⟩).2 = s6 := ⟨_, rfl⟩
      obtain ⟨kd, hkd⟩ : ∃ kd, (rnum s6).1 = kd := ⟨_, rfl⟩
      obtain ⟨s7, hs7⟩ : ∃ s7, (rnum s6).2 = s7 := ⟨_, rfl⟩
      have hxc : rcol ⟨b5, false⟩ = (⟨str x, kd⟩, s7) := by unfold rcol; rw [hs6, hx, hkd, hs7]
      rw [hxc] at hR2
      have HR2 := Aside0.mk hR2
      have HX' := Aside0.mk hx
      have HS6 := Aside0.mk hs6
      have HKd := Aside0.mk hkd
      have HS7 := Aside0.mk hs7
      clear hR hR2 hx hs6 hkd hs7 hxc
      go_upto_region 7 with (go_at_call 54; refine (text_at _ g B ⟨b5, false⟩ HI.out.at_).mono ?_; rw [HX'.out, HS6.out]; rintro e w6 ⟨rfl, h6, hf6⟩; have HI6 := Aside0.mk (HI.out.call hgq hqp h6 hf6); have HR6 := Aside0.mk (R_call HR.out hf6 (show g < p + 1 by omega)); clear h6 hf6)
      have HI6' := Aside0.mk (HI6.out.low hgq hqp (Nat.lt_succ_self p) (by omega) (below_drew (Below.refl _ w6)))
      have HR6' := Aside0.mk (Kd.R_drew HR6.out)
      have hs6' : p + 1 ≤ w6.drew.heap.size := HI6'.out.bx.lt
      refine start_ (n := 10) (S := fun w' => w'.cell? ⟨p, 1, none⟩ = some v1) (ds := [9]) #[false, false, false, false, false, false, false, false, false, false] (by kernel_rfl) rfl rfl HI6'.out.bx.c1 (fun hHeld => ?_)
      refine with_tabW t33_7 b33_7 (fun HT_ HW_ => ?_)
      clear HI6 HR6
      generalize w6.drew = w6d at HI6' HR6' hHeld hs6' ⊢
      refine pure_ (i := 0) (N := some 30) (v := ?_) (a' := ?_) #[true, false, false, false, false, false, false, false, false, false] rfl rfl (any_of HT_.out (by kernel_rfl)) (fun _ _ _ h => h) (Or.inl ⟨by rfl, ?_⟩) ?_ ?_
      rotate_left
      · intro w'
        go_simp
        with_reducible rfl
      rotate_left
      · simp only [Act.put, List.setIfInBounds_toArray, List.set_cons_zero, List.set_cons_succ, i64_w, i32_w]
        rfl
      refine pure_ (i := 2) (N := some 32) (v := ?_) (a' := ?_) #[true, false, true, false, false, false, false, false, false, false] rfl rfl (any_of HT_.out (by kernel_rfl)) (fun _ _ _ h => h) (Or.inl ⟨by rfl, ?_⟩) ?_ ?_
      rotate_left
      · intro w'
        go_simp
        with_reducible rfl
      rotate_left
      · simp only [Act.put, List.setIfInBounds_toArray, List.set_cons_zero, List.set_cons_succ, i64_w, i32_w]
        rfl
      refine pure_ (i := 3) (N := some 33) (v := ?_) (a' := ?_) #[true, false, true, true, false, false, false, false, false, false] rfl rfl (any_of HT_.out (by kernel_rfl)) (fun _ _ _ h => h) (Or.inl ⟨by rfl, ?_⟩) ?_ ?_
      rotate_left
      · intro w'
        go_simp
        with_reducible rfl
      rotate_left
      · simp only [Act.put, List.setIfInBounds_toArray, List.set_cons_zero, List.set_cons_succ, i64_w, i32_w]
        rfl
      refine take_ (i := 1) (N := some 31) (v := ?_) (a' := ?_) #[true, true, true, true, false, false, false, false, false, false] rfl rfl (take_ofW HT_.out HW_.out (by kernel_rfl)) (fun _ _ _ h => h) (Or.inl ⟨by rfl, ?_⟩) hHeld ?_ ?_
      rotate_left
      · rintro w' s0
        go_simp
        with_reducible rfl
      rotate_left
      · simp only [Act.put, List.setIfInBounds_toArray, List.set_cons_zero, List.set_cons_succ, i64_w, i32_w]
        rfl
      refine one_ (i := 4) (N := some 34) #[true, true, true, true, true, false, false, false, false, false] rfl rfl (one_of HT_.out (by kernel_rfl)) (by decide) (fun K hK => ?_)
      refine goes_ Try.func56 (by kernel_rfl) rfl #[.pointer (some ⟨g, 0, none⟩)] (by rfl) rfl rfl (by (try simp only [List.map_toArray, List.map_cons, List.map_nil]); first | done | rfl) ?_
      refine (number_at w6d g B s6 HI6'.out.at_).mono ?_
      rw [HKd.out, HS7.out]
      rintro e w7 ⟨rfl, h7, hf7⟩
      refine ⟨_, rfl, ?_⟩
      have HI7 := Aside0.mk (HI6'.out.call hgq hqp h7 hf7)
      have HR7 := Aside0.mk (R_call HR6'.out hf7 (show g < p + 1 by omega))
      have hs7' : p + 1 ≤ w7.heap.size := HI7.out.bx.lt
      clear h7 hf7
      refine hK.out _ _ HI7.out.bx.c1 (fun hHeld => ?_)
      clear hK K
      refine norm_ (a' := ?_) ?_ ?_
      rotate_left
      · show Act.put _ (some 34) _ = _
        simp only [Act.put, List.setIfInBounds_toArray, List.set_cons_zero, List.set_cons_succ, i64_w, i32_w]
        rfl
      refine pure_ (i := 5) (N := some 35) (v := ?_) (a' := ?_) #[true, true, true, true, true, true, false, false, false, false] rfl rfl (any_of HT_.out (by kernel_rfl)) (fun _ _ _ h => h) (Or.inl ⟨by rfl, ?_⟩) ?_ ?_
      rotate_left
      · intro w'
        go_simp
        with_reducible rfl
      rotate_left
      · simp only [Act.put, List.setIfInBounds_toArray, List.set_cons_zero, List.set_cons_succ, i64_w, i32_w]
        rfl
      refine one_ (i := 6) (N := some 36) #[true, true, true, true, true, true, true, false, false, false] rfl rfl (one_of HT_.out (by kernel_rfl)) (by decide) (fun K hK => ?_)
      refine value_ (w1 := ?_) (v := ?_) (by rfl) rfl ?_ ?_
      rotate_left 2
      · go_simp
        constructor
        · rfl
        · rfl
      refine hK.out _ _ ((HI7.out.bx.keep (below_alloc (Below.refl _ w7) _) hs7').c1) (fun hHeld => ?_)
      clear hK K
      refine norm_ (a' := ?_) ?_ ?_
      rotate_left
      · show Act.put _ (some 36) _ = _
        simp only [Act.put, List.setIfInBounds_toArray, List.set_cons_zero, List.set_cons_succ, i64_w, i32_w]
        rfl
      refine one_ (i := 7) (N := some 37) #[true, true, true, true, true, true, true, true, false, false] rfl rfl (one_of HT_.out (by kernel_rfl)) (by decide) (fun K hK => ?_)
      refine Kd.R_append_step kcol (w0 := w7) (p + 1) (by rfl) (.tmp 31) (.tmp 36) 27 32 (.agg #[.string ⟨#[]⟩, .int .i64 0]) 24 rfl Try.underlying27 info32 rfl (show 0 < 2 from by decide) (by omega) v1 acc (⟨str x, kd⟩ : Col) [.string (str x), .int .i64 kd] (fun _ => True) (fun _ => False) rfl rfl ?aP (fun _ hk => hk.elim) (fun _ _ => trivial) ?aO (Below.refl _ _) ?aS ?aL ?_
      case aP => exact kcol_M.2 rfl
      case aO => exact HR7.out
      case aS => exact hs7'
      case aL => have := HJ.out; omega
      intro v4 w8 hr8 hb8 hg8 hat8
      obtain ⟨A4, c4, rfl⟩ := Kd.R_slice hr8
      obtain ⟨n4, hn4⟩ : ∃ n4, (acc ++ [(⟨str x, kd⟩ : Col)]).length = n4 := ⟨_, rfl⟩
      rw [hn4] at hr8 ⊢
      clear hn4
      have HI8 := Aside0.mk (HI7.out.low hgq hqp (Nat.lt_succ_self p) (by omega) hb8)
      have HR8 := Aside0.mk hr8
      have c1 := HI8.out.bx.c1
      have f1 := HI8.out.bx.fz 1
      clear hr8 hb8 hg8 hat8
      refine hK.out _ _ HI8.out.bx.c1 (fun hHeld => ?_)
      clear hK K
      refine norm_ (a' := ?_) ?_ ?_
      rotate_left
      · show Act.put _ (some 37) _ = _
        simp only [Act.put, List.setIfInBounds_toArray, List.set_cons_zero, List.set_cons_succ, i64_w, i32_w]
        rfl
      refine pure_ (i := 8) (N := some 38) (v := ?_) (a' := ?_) #[true, true, true, true, true, true, true, true, true, false] rfl rfl (any_of HT_.out (by kernel_rfl)) (fun _ _ _ h => h) (Or.inl ⟨by rfl, ?_⟩) ?_ ?_
      rotate_left
      · intro w'
        go_simp
        with_reducible rfl
      rotate_left
      · simp only [Act.put, List.setIfInBounds_toArray, List.set_cons_zero, List.set_cons_succ, i64_w, i32_w]
        rfl
      refine last_ (i := 9) (N := none) #[true, true, true, true, true, true, true, true, true, true] rfl rfl (one_of HT_.out (by kernel_rfl)) (by decide) (fun K hK => ?_)
      refine skip_ (w1 := ?_) (by rfl) rfl ?_ ?_
      rotate_left
      · go_simp
        rfl
      refine hK.out _ _ ?_
      clear hK K
      refine done_ (done_of HT_.out (by kernel_rfl)) ?_
      have HI9 := Aside0.mk (HI8.out.put1 hgq hqp hWp (.slice A4 n4 c4))
      have HR9 := Aside0.mk (R_put HR8.out (Nat.lt_succ_self p) 1 (.slice A4 n4 c4))
      clear c1 f1
      go_wp2_with fail
      go_roundg kq1
      case measure => have := HJ.out; omega
      case rel => exact ⟨j + 1, acc ++ [⟨str x, kd⟩], _, s7, by go_num, ⟨by have := HJ.out; omega, by omega, by rw [List.length_append, HJ.out.2.2]; rfl⟩, ⟨by rw [show n1.toNat - (j + 1) = k1 by omega]; exact HR2.out⟩, HR9, HI9⟩
    | false =>
      have hE : acc = cols ∧ (⟨b5, bad5⟩ : RS) = s2 := by
        have h1 := HL.out
        have h2 : rloop rcol (n1.toNat - j) acc ⟨b5, bad5⟩ = (acc, ⟨b5, bad5⟩) := by
          cases bad5 with
          | true => exact rloop_bad _ _ _ rfl
          | false =>
            have h3 := HGo.out
            simp at h3
            rw [show n1.toNat - j = 0 by omega]
            rfl
        rw [h2] at h1
        exact Prod.mk.inj h1
      obtain ⟨rfl, hE2⟩ := hE
      rw [hE2] at HI
      clear HL HJ HGo x2 HWc hE2
      have hsc : p + 1 ≤ wc.heap.size := HI.out.bx.lt
      go_upto_region 9 with (go_at_call 56; refine (number_at _ g B s2 HI.out.at_).mono ?_; rw [HKy.out, HS3.out]; rintro e w4 ⟨rfl, h4, hf4⟩; have HI4 := Aside0.mk (HI.out.call hgq hqp h4 hf4); have HR4 := Aside0.mk (R_call HR.out hf4 (show g < p + 1 by omega)); have c2 := HI4.out.bx.c2; have f2 := HI4.out.bx.fz 2; clear h4 hf4)
      have HI5 := Aside0.mk (HI4.out.put2 hgq hqp hWp (.int .i64 ky))
      have HR5 := Aside0.mk (R_put HR4.out (Nat.lt_succ_self p) 2 (.int .i64 ky))
      clear c2 f2 HI4 HR4
      generalize w4.setCell ⟨p, 2, none⟩ (.int .i64 ky) = w5 at *
      go_wp2_with (go_at_call 55; refine (many_at _ g B s3 HI5.out.at_).mono ?_; rw [HN2.out, HT3.out]; rintro e w6 ⟨rfl, h6, hf6⟩; have HI6 := Aside0.mk (HI5.out.call hgq hqp h6 hf6); have HR6 := Aside0.mk (R_call HR5.out hf6 (show g < p + 1 by omega)); clear h6 hf6)
      obtain ⟨m, hm⟩ : ∃ m, w6.heap.size = m := ⟨_, rfl⟩
      have hpm : p < m := by rw [← hm]; exact HI6.out.bx.lt
      have HR1 := Aside0.mk (Kd.R_mono (Kd.R_bound HR6.out) (ok' := fun k => k < m) fun k hk => by have := hk.2.2; omega)
      have hms : m ≤ w6.heap.size := Nat.le_of_eq hm.symm
      clear HR6 hm
      go_loopg [7] (n2.toNat + 2) (fun kq v7 w' => ∃ (j : Nat) (ac : List Ix) (v3 : Value) (s5 : RS), v7 = .int .i64 (j : Int) ∧ Aside0 (j + kq = n2.toNat + 2 ∧ j ≤ n2.toNat ∧ ac.length = j) ∧ Aside0 (rloop rix (n2.toNat - j) ac s5 = (ixs, s4)) ∧ Aside0 (kcol.R 32 w' (p + 1) (fun k => k < m) v1 acc) ∧ Aside0 (kix.R 67 w' m (fun _ => True) v3 ac) ∧ Aside0 (SI W w' g q p B (.string (str nm)) v1 (.int .i64 ky) v3 s5) ∧ Aside0 (m ≤ w'.heap.size))
      case atStart => exact ⟨0, [], _, t3, rfl, ⟨by omega, Nat.zero_le _, rfl⟩, HL2, HR1, ⟨Kd.R_nil _ _ _ _ _⟩, HI6, ⟨hms⟩⟩
      case round =>
        clear HL2 HR1 HI6
        obtain ⟨j2, ac, v3, ⟨b6, bad6⟩, rfl, HJ2, HL2, HR1, HR3, HI, HM⟩ := hrel
        have x2 : wr.cell? ⟨g, 2, none⟩ = some (.bool bad6) := HI.out.at_.cell
        have hji2 : (0 : Int) ≤ (j2 : Int) := by omega
        obtain ⟨go, hgo⟩ : ∃ go, (decide (j2 < n2.toNat) && !bad6) = go := ⟨_, rfl⟩
        have HGo := Aside0.mk hgo
        clear hgo
        go_upto_region 11 with fail
        go_cut [53] (fun v53 wd => v53 = .bool go ∧ Aside0 (wd = wr))
        case first =>
          by_cases hj : j2 < n2.toNat
          · have hjn : (j2 : Int) < n2 := by omega
            cases bad6 with
            | true =>
              obtain rfl : go = false := by rw [← HGo.out]; simp
              go_wp2_with fail
              go_meet
              exact ⟨rfl, ⟨rfl⟩⟩
            | false =>
              obtain rfl : go = true := by rw [← HGo.out]; simp [hj]
              go_wp2_with fail
              go_meet
              exact ⟨rfl, ⟨rfl⟩⟩
          · have hjn : ¬ (j2 : Int) < n2 := by omega
            obtain rfl : go = false := by rw [← HGo.out]; simp [hj]
            go_wp2_with fail
            go_meet
            exact ⟨rfl, ⟨rfl⟩⟩
        case rest =>
        obtain ⟨rfl, HWc⟩ := hcut
        obtain rfl := HWc.out
        cases go with
        | true =>
          have hj : j2 < n2.toNat := by have h := HGo.out; simp at h; omega
          obtain rfl : bad6 = false := by have h := HGo.out; simp at h; exact h.2
          obtain ⟨kq2, rfl⟩ : ∃ kq2, gk = kq2 + 1 := ⟨gk - 1, by have := HJ2.out.1; omega⟩
          obtain ⟨k2, hk2⟩ : ∃ k2, n2.toNat - j2 = k2 + 1 := ⟨n2.toNat - j2 - 1, by omega⟩
          have hR := HL2.out
          rw [hk2] at hR
          have hR2 : rloop rix k2 (ac ++ [(rix ⟨b6, false⟩).1]) (rix ⟨b6, false⟩).2 = (ixs, s4) := by rw [← hR]; rfl
          obtain ⟨xn, hxn⟩ : ∃ xn, (rtext ⟨b6, false⟩).1 = xn := ⟨_, rfl⟩
          obtain ⟨sx1, hsx1⟩ : ∃ sx1, (rtext ⟨b6, false⟩).2 = sx1 := ⟨_, rfl⟩
          obtain ⟨nk, hnk⟩ : ∃ nk, (rmany sx1).1 = nk := ⟨_, rfl⟩
          obtain ⟨tk, htk⟩ : ∃ tk, (rmany sx1).2 = tk := ⟨_, rfl⟩
          obtain ⟨xc, hxc⟩ : ∃ xc, (rlist rnum sx1).1 = xc := ⟨_, rfl⟩
          obtain ⟨sx2, hsx2⟩ : ∃ sx2, (rlist rnum sx1).2 = sx2 := ⟨_, rfl⟩
          obtain ⟨xu, hxu⟩ : ∃ xu, (rfl' sx2).1 = xu := ⟨_, rfl⟩
          obtain ⟨sx3, hsx3⟩ : ∃ sx3, (rfl' sx2).2 = sx3 := ⟨_, rfl⟩
          have hx : rix ⟨b6, false⟩ = (⟨str xn, xc, xu⟩, sx3) := by unfold rix; rw [hsx1, hxn, hxc, hsx2, hxu, hsx3]
          rw [hx] at hR2
          have HR2 := Aside0.mk hR2
          have HL3 := Aside0.mk (show rloop rnum nk.toNat [] tk = (xc, sx2) by rw [← hnk, ← htk, rmany_list, ← hxc, ← hsx2])
          have hnkr : 0 ≤ nk ∧ nk ≤ 4096 := hnk ▸ rmany_range sx1
          have HXn := Aside0.mk hxn
          have HSx1 := Aside0.mk hsx1
          have HNk := Aside0.mk hnk
          have HTk := Aside0.mk htk
          have HXu := Aside0.mk hxu
          have HSx3 := Aside0.mk hsx3
          clear hR hR2 hxn hsx1 hnk htk hxc hsx2 hxu hsx3 hx
          have hmw := HM.out
          go_upto_region 14 with (go_at_call 54; refine (text_at _ g B ⟨b6, false⟩ HI.out.at_).mono ?_; rw [HXn.out, HSx1.out]; rintro e w7 ⟨rfl, h7, hf7⟩; have HI7 := Aside0.mk (HI.out.call hgq hqp h7 hf7); have HR17 := Aside0.mk (R_call HR1.out hf7 (show g < p + 1 by omega)); have HR37 := Aside0.mk (R_call HR3.out hf7 (show g < m by omega)); have hm7 : m ≤ w7.heap.size := Nat.le_trans hmw hf7.size; clear h7 hf7)
          obtain ⟨px, hpx⟩ : ∃ px, w7.heap.size = px := ⟨_, rfl⟩
          rw [hpx]
          have hmx : m ≤ px := by omega
          have HX0 := Aside0.mk (show XI W (w7.alloc (.cells #[.string (str xn), .slice none 0 0, .bool false] 67)) g q p m px B (.string (str nm)) v1 acc ky v3 ac (str xn) (.slice none 0 0) [] sx1 from
            ⟨HI7.out.low hgq hqp (Nat.lt_succ_self p) (by omega) ((below_alloc (Below.refl _ w7) _).mono (by omega)), R_low1 HR17.out (below_alloc (Below.refl _ w7) _) hm7, Kd.R_mono (Kd.R_alloc (Kd.R_bound HR37.out) _) (fun k hk => by have := hk.2.2; omega), hpx ▸ heap_alloc_new w7 _, Kd.R_nil _ _ _ _ _⟩)
          clear HI7 HR17 HR37 hm7 hpx
          generalize w7.alloc (.cells #[.string (str xn), .slice none 0 0, .bool false] 67) = w8 at *
          go_wp2_with (go_at_call 55; refine (many_at _ g B sx1 HX0.out.si.at_).mono ?_; rw [HNk.out, HTk.out]; rintro e w9 ⟨rfl, h9, hf9⟩; have HX1 := Aside0.mk (HX0.out.call hgq hqp hpm hmx h9 hf9); clear h9 hf9)
          go_loopg [10] (nk.toNat + 2) (fun kq v10 w' => ∃ (l : Nat) (ax : List Int) (vx : Value) (s5 : RS), v10 = .int .i64 (l : Int) ∧ Aside0 (l + kq = nk.toNat + 2 ∧ l ≤ nk.toNat ∧ ax.length = l) ∧ Aside0 (rloop rnum (nk.toNat - l) ax s5 = (xc, sx2)) ∧ Aside0 (XI W w' g q p m px B (.string (str nm)) v1 acc ky v3 ac (str xn) vx ax s5))
          case atStart => exact ⟨0, [], _, tk, rfl, ⟨by omega, Nat.zero_le _, rfl⟩, HL3, HX1⟩
          case round =>
            clear HL3 HX1
            obtain ⟨l, ax, vx, ⟨b7, bad7⟩, rfl, HJ3, HL3, HX3⟩ := hrel
            have x2 : wr.cell? ⟨g, 2, none⟩ = some (.bool bad7) := HX3.out.si.at_.cell
            have hji3 : (0 : Int) ≤ (l : Int) := by omega
            obtain ⟨go, hgo⟩ : ∃ go, (decide (l < nk.toNat) && !bad7) = go := ⟨_, rfl⟩
            have HGo3 := Aside0.mk hgo
            clear hgo
            go_upto_region 16 with fail
            go_cut [70] (fun v70 wd => v70 = .bool go ∧ Aside0 (wd = wr))
            case first =>
              by_cases hj3 : l < nk.toNat
              · have hjn : (l : Int) < nk := by omega
                cases bad7 with
                | true =>
                  obtain rfl : go = false := by rw [← HGo3.out]; simp
                  go_wp2_with fail
                  go_meet
                  exact ⟨rfl, ⟨rfl⟩⟩
                | false =>
                  obtain rfl : go = true := by rw [← HGo3.out]; simp [hj3]
                  go_wp2_with fail
                  go_meet
                  exact ⟨rfl, ⟨rfl⟩⟩
              · have hjn : ¬ (l : Int) < nk := by omega
                obtain rfl : go = false := by rw [← HGo3.out]; simp [hj3]
                go_wp2_with fail
                go_meet
                exact ⟨rfl, ⟨rfl⟩⟩
            case rest =>
            obtain ⟨rfl, HWc⟩ := hcut
            obtain rfl := HWc.out
            cases go with
            | true =>
              have hj3 : l < nk.toNat := by have h := HGo3.out; simp at h; omega
              obtain rfl : bad7 = false := by have h := HGo3.out; simp at h; exact h.2
              obtain ⟨kq3, rfl⟩ : ∃ kq3, gk = kq3 + 1 := ⟨gk - 1, by have := HJ3.out.1; omega⟩
              obtain ⟨k3, hk3⟩ : ∃ k3, nk.toNat - l = k3 + 1 := ⟨nk.toNat - l - 1, by omega⟩
              have hR := HL3.out
              rw [hk3] at hR
              have hR2 : rloop rnum k3 (ax ++ [(rnum ⟨b7, false⟩).1]) (rnum ⟨b7, false⟩).2 = (xc, sx2) := by rw [← hR]; rfl
              obtain ⟨cn, hcn⟩ : ∃ cn, (rnum ⟨b7, false⟩).1 = cn := ⟨_, rfl⟩
              obtain ⟨cs, hcs⟩ : ∃ cs, (rnum ⟨b7, false⟩).2 = cs := ⟨_, rfl⟩
              rw [hcn, hcs] at hR2
              have HC2 := Aside0.mk hR2
              have HCn := Aside0.mk hcn
              have HCs := Aside0.mk hcs
              have HX6 := HX3
              clear hR hR2 hcn hcs x2
              go_upto_region 18 with fail
              have HX6' := Aside0.mk (HX6.out.drew hgq hqp hWp hpm)
              clear HX6
              refine start_ (n := 8) (S := fun w' => w'.cell? ⟨px, 1, none⟩ = some vx) (ds := [7]) #[false, false, false, false, false, false, false, false] (by kernel_rfl) rfl rfl (blk_cell HX6'.out.bx 1) (fun hHeld => ?_)
              refine with_tabW t33_18 b33_18 (fun HT_ HW_ => ?_)
              generalize wc.drew = w6d at HX6' hHeld ⊢
              refine pure_ (i := 0) (N := some 73) (v := ?_) (a' := ?_) #[true, false, false, false, false, false, false, false] rfl rfl (any_of HT_.out (by kernel_rfl)) (fun _ _ _ h => h) (Or.inl ⟨by rfl, ?_⟩) ?_ ?_
              rotate_left
              · intro w'
                go_simp
                with_reducible rfl
              rotate_left
              · simp only [Act.put, List.setIfInBounds_toArray, List.set_cons_zero, List.set_cons_succ, i64_w, i32_w]
                rfl
              refine pure_ (i := 2) (N := some 75) (v := ?_) (a' := ?_) #[true, false, true, false, false, false, false, false] rfl rfl (any_of HT_.out (by kernel_rfl)) (fun _ _ _ h => h) (Or.inl ⟨by rfl, ?_⟩) ?_ ?_
              rotate_left
              · intro w'
                go_simp
                with_reducible rfl
              rotate_left
              · simp only [Act.put, List.setIfInBounds_toArray, List.set_cons_zero, List.set_cons_succ, i64_w, i32_w]
                rfl
              refine take_ (i := 1) (N := some 74) (v := ?_) (a' := ?_) #[true, true, true, false, false, false, false, false] rfl rfl (take_ofW HT_.out HW_.out (by kernel_rfl)) (fun _ _ _ h => h) (Or.inl ⟨by rfl, ?_⟩) hHeld ?_ ?_
              rotate_left
              · rintro w' s0
                go_simp
                with_reducible rfl
              rotate_left
              · simp only [Act.put, List.setIfInBounds_toArray, List.set_cons_zero, List.set_cons_succ, i64_w, i32_w]
                rfl
              refine one_ (i := 3) (N := some 76) #[true, true, true, true, false, false, false, false] rfl rfl (one_of HT_.out (by kernel_rfl)) (by decide) (fun K hK => ?_)
              refine goes_ Try.func56 (by kernel_rfl) rfl #[.pointer (some ⟨g, 0, none⟩)] (by rfl) rfl rfl (by (try simp only [List.map_toArray, List.map_cons, List.map_nil]); first | done | rfl) ?_
              refine (number_at w6d g B _ HX6'.out.si.at_).mono ?_
              rw [HCn.out, HCs.out]
              rintro e w7 ⟨rfl, h7, hf7⟩
              refine ⟨_, rfl, ?_⟩
              have HX7 := Aside0.mk (HX6'.out.call hgq hqp hpm hmx h7 hf7)
              have hs7' : px + 1 ≤ w7.heap.size := blk_lt HX7.out.bx
              clear h7 hf7
              refine hK.out _ _ ((blk_cell HX7.out.bx 1).trans rfl) (fun hHeld => ?_)
              clear hK K
              refine norm_ (a' := ?_) ?_ ?_
              rotate_left
              · show Act.put _ (some 76) _ = _
                simp only [Act.put, List.setIfInBounds_toArray, List.set_cons_zero, List.set_cons_succ, i64_w, i32_w]
                rfl
              refine one_ (i := 4) (N := some 77) #[true, true, true, true, true, false, false, false] rfl rfl (one_of HT_.out (by kernel_rfl)) (by decide) (fun K hK => ?_)
              refine value_ (w1 := ?_) (v := ?_) (by rfl) rfl ?_ ?_
              rotate_left 2
              · go_simp
                constructor
                · rfl
                · rfl
              refine hK.out _ _ ((blk_cell (blk_alloc HX7.out.bx _) 1).trans rfl) (fun hHeld => ?_)
              clear hK K
              refine norm_ (a' := ?_) ?_ ?_
              rotate_left
              · show Act.put _ (some 77) _ = _
                simp only [Act.put, List.setIfInBounds_toArray, List.set_cons_zero, List.set_cons_succ, i64_w, i32_w]
                rfl
              refine one_ (i := 5) (N := some 78) #[true, true, true, true, true, true, false, false] rfl rfl (one_of HT_.out (by kernel_rfl)) (by decide) (fun K hK => ?_)
              refine Kd.R_append_step (Kd.int .i64) (w0 := w7) (px + 1) (by rfl) (.tmp 74) (.tmp 77) 65 3 (.int .i64 0) 8 rfl Try.underlying65 info3 rfl (show 0 < 1 from by decide) (by omega) vx ax cn [.int .i64 cn] (fun _ => True) (fun _ => False) rfl rfl ?aP (fun _ hk => hk.elim) (fun _ _ => trivial) ?aO (Below.refl _ _) ?aS ?aL ?_
              case aP => rfl
              case aO => exact HX7.out.rx
              case aS => exact hs7'
              case aL => have := HJ3.out; omega
              intro v4 w8 hr8 hb8 hg8 hat8
              obtain ⟨A4, c4, rfl⟩ := Kd.R_slice hr8
              obtain ⟨n4, hn4⟩ : ∃ n4, (ax ++ [cn]).length = n4 := ⟨_, rfl⟩
              rw [hn4] at hr8 ⊢
              clear hn4
              have HX8 := Aside0.mk (HX7.out.app hgq hqp hWp hpm hmx hb8 hr8)
              have hbx8 := (hb8.block px (Nat.lt_succ_self px)).trans HX7.out.bx
              have c1 := (blk_cell hbx8 1).trans (show _ = some vx from rfl)
              have f1 := blk_frozen hbx8 1
              clear hr8 hb8 hg8 hat8 hbx8
              refine hK.out _ _ c1 (fun hHeld => ?_)
              clear hK K
              refine norm_ (a' := ?_) ?_ ?_
              rotate_left
              · show Act.put _ (some 78) _ = _
                simp only [Act.put, List.setIfInBounds_toArray, List.set_cons_zero, List.set_cons_succ, i64_w, i32_w]
                rfl
              refine pure_ (i := 6) (N := some 79) (v := ?_) (a' := ?_) #[true, true, true, true, true, true, true, false] rfl rfl (any_of HT_.out (by kernel_rfl)) (fun _ _ _ h => h) (Or.inl ⟨by rfl, ?_⟩) ?_ ?_
              rotate_left
              · intro w'
                go_simp
                with_reducible rfl
              rotate_left
              · simp only [Act.put, List.setIfInBounds_toArray, List.set_cons_zero, List.set_cons_succ, i64_w, i32_w]
                rfl
              refine last_ (i := 7) (N := none) #[true, true, true, true, true, true, true, true] rfl rfl (one_of HT_.out (by kernel_rfl)) (by decide) (fun K hK => ?_)
              refine skip_ (w1 := ?_) (by rfl) rfl ?_ ?_
              rotate_left
              · go_simp
                rfl
              refine hK.out _ _ ?_
              clear hK K
              refine done_ (done_of HT_.out (by kernel_rfl)) ?_
              clear c1 f1
              go_wp2_with fail
              go_roundg kq3
              case measure => have := HJ3.out; omega
              case rel => exact ⟨l + 1, ax ++ [cn], _, cs, by go_num, ⟨by have := HJ3.out; omega, by omega, by rw [List.length_append, HJ3.out.2.2]; rfl⟩, ⟨by rw [show nk.toNat - (l + 1) = k3 by omega]; exact HC2.out⟩, HX8⟩
            | false =>
              have hE : ax = xc ∧ (⟨b7, bad7⟩ : RS) = sx2 := by
                have h1 := HL3.out
                have h2 : rloop rnum (nk.toNat - l) ax ⟨b7, bad7⟩ = (ax, ⟨b7, bad7⟩) := by
                  cases bad7 with
                  | true => exact rloop_bad _ _ _ rfl
                  | false =>
                    have h3 := HGo3.out
                    simp at h3
                    rw [show nk.toNat - l = 0 by omega]
                    rfl
                rw [h2] at h1
                exact Prod.mk.inj h1
              obtain ⟨rfl, hE2⟩ := hE
              rw [hE2] at HX3
              clear HL3 HJ3 HGo3 x2 HWc hE2
              obtain ⟨Ax, cx, rfl⟩ := Kd.R_slice HX3.out.rx
              obtain ⟨nx, hnx⟩ : ∃ nx, ax.length = nx := ⟨_, rfl⟩
              rw [hnx] at HX3
              go_upto_region 20 with (go_at_call 57; refine (flag_at _ g B sx2 HX3.out.si.at_).mono ?_; rw [HXu.out, HSx3.out]; rintro e w9 ⟨rfl, h9, hf9⟩; have HX4 := Aside0.mk (HX3.out.call hgq hqp hpm hmx h9 hf9); have c2 := (blk_cell HX4.out.bx 2).trans (show _ = some (Value.bool false) from rfl); have f2 := blk_frozen HX4.out.bx 2; clear h9 hf9)
              obtain ⟨k1, k2', k3, k4, k5⟩ := HX4.out.flag hgq hqp hWp hpm hmx xu
              have K1 := Aside0.mk k1
              have K2 := Aside0.mk k2'
              have K3 := Aside0.mk k3
              have K4 := Aside0.mk k4
              have K5 := Aside0.mk k5
              clear k1 k2' k3 k4 k5 c2 f2 HX4
              generalize w9.setCell ⟨px, 2, none⟩ (.bool xu) = wa at *
              have d0 := (blk_cell K4.out 0).trans (show _ = some (Value.string (str xn)) from rfl)
              have d1 := (blk_cell K4.out 1).trans (show _ = some (Value.slice Ax nx cx) from rfl)
              have d2 := (blk_cell K4.out 2).trans (show _ = some (Value.bool xu) from rfl)
              have c3 := K1.out.bx.c3
              have hma : m ≤ wa.heap.size := by have := blk_lt K4.out; omega
              have HOw := Aside0.mk (fun k (hk : px + 1 ≤ k) => (⟨trivial, fun e => by obtain ⟨h0, inner, ho, hr⟩ := K3.out; have := h0 k e.symm; omega⟩ : True ∧ some k ≠ v3.ownBlock))
              have HRi := Aside0.mk (Kd.R_lower (Kd.R_mono (Kd.R_bound K5.out) (ok' := fun k => px + 1 ≤ k) fun k hk => hk.2.1) (show m ≤ px + 1 by omega))
              have HRx := Aside0.mk (Kd.R_mono K3.out (ok' := fun _ => True) fun _ _ => trivial)
              have HLa := Aside0.mk (show (ac.length + 1) * 48 ≤ 140737488355328 by have := HJ2.out; omega)
              go_wp2_with ((with_reducible refine gate_builtin (b := .append) (xs := #[.tmp 84, .tmp 86]) rfl ?_); at_builtin; refine Kd.R_append kix (w0 := wa) m rfl (.tmp 84) (.tmp 86) 28 67 (.agg #[.string ⟨#[]⟩, .slice none 0 0, .bool false]) 48 rfl Try.underlying28 info67 rfl (show 0 < 3 from by decide) (by decide) v3 ac (⟨str xn, ax, xu⟩ : Ix) [.string (str xn), .slice Ax nx cx, .bool xu] (fun _ => True) (fun k => px + 1 ≤ k) rfl rfl ⟨[.string (str xn)], [.slice Ax nx cx, .bool xu], rfl, rfl, [.slice Ax nx cx], [.bool xu], rfl, ⟨_, rfl, HRi.out⟩, rfl⟩ HOw.out (fun _ _ => trivial) HRx.out (Below.refl _ _) hma HLa.out ?_; intro v4 wb hr4 hb4 hg4 hat4; obtain ⟨A4, c4, rfl⟩ := Kd.R_slice hr4; obtain ⟨n4, hn4⟩ : ∃ n4, (ac ++ [(⟨str xn, ax, xu⟩ : Ix)]).length = n4 := ⟨_, rfl⟩; rw [hn4] at hr4 ⊢; clear hn4; have HI9 := Aside0.mk (K1.out.low hgq hqp hpm (by omega) hb4); have HR9 := Aside0.mk (R_low1 K2.out hb4 (Nat.le_refl _)); have HN9 := Aside0.mk hr4; have c3b := HI9.out.bx.c3; have f3b := HI9.out.bx.fz 3; have hmb : m ≤ wb.heap.size := Nat.le_trans hma hb4.size; clear hr4 hb4 hg4 hat4)
              have HIa := Aside0.mk (HI9.out.put3 hgq hqp hWp (.slice A4 n4 c4))
              have HRa := Aside0.mk (R_put HR9.out (Nat.lt_succ_self p) 3 (.slice A4 n4 c4))
              have HNa := Aside0.mk (R_put HN9.out hpm 3 (.slice A4 n4 c4))
              go_roundg kq2
              case measure => have := HJ2.out; omega
              case rel => exact ⟨j2 + 1, ac ++ [⟨str xn, ax, xu⟩], _, sx3, by go_num, ⟨by have := HJ2.out; omega, by omega, by rw [List.length_append, HJ2.out.2.2]; rfl⟩, ⟨by rw [show n2.toNat - (j2 + 1) = k2 by omega]; exact HR2.out⟩, HRa, HNa, HIa, ⟨by simpa [World.setCell] using hmb⟩⟩
        | false =>
          have hE : ac = ixs ∧ (⟨b6, bad6⟩ : RS) = s4 := by
            have h1 := HL2.out
            have h2 : rloop rix (n2.toNat - j2) ac ⟨b6, bad6⟩ = (ac, ⟨b6, bad6⟩) := by
              cases bad6 with
              | true => exact rloop_bad _ _ _ rfl
              | false =>
                have h3 := HGo.out
                simp at h3
                rw [show n2.toNat - j2 = 0 by omega]
                rfl
            rw [h2] at h1
            exact Prod.mk.inj h1
          obtain ⟨rfl, hE2⟩ := hE
          rw [hE2] at HI
          clear HL2 HJ2 HGo x2 HWc hE2
          obtain ⟨A1, e1, rfl⟩ := Kd.R_slice HR1.out
          obtain ⟨A3, e3, rfl⟩ := Kd.R_slice HR3.out
          obtain ⟨l1, hl1⟩ : ∃ l1, acc.length = l1 := ⟨_, rfl⟩
          obtain ⟨l3, hl3⟩ : ∃ l3, ac.length = l3 := ⟨_, rfl⟩
          rw [hl1] at HI HR1
          rw [hl3] at HI HR3
          clear hl1 hl3
          have c0 := HI.out.bx.c0
          have c1 := HI.out.bx.c1
          have c2 := HI.out.bx.c2
          have c3 := HI.out.bx.c3
          have d0 := HI.out.bz.c0
          have d1 := HI.out.bz.c1
          have d2 := HI.out.bz.c2
          have d3 := HI.out.bz.c3
          have f0 := HI.out.bz.fz 0
          have f1 := HI.out.bz.fz 1
          have f2 := HI.out.bz.fz 2
          have f3 := HI.out.bz.fz 3
          have HZ := Aside0.mk ((((HI.out.bz.set0 (.string (str nm))).set1 (.slice A1 l1 e1)).set2 (.int .i64 ky)).set3 (.slice A3 l3 e3))
          have HA := Aside0.mk ((((HI.out.at_.far (p := ⟨q, 0, none⟩) (fun e => by simp at e; omega) (.string (str nm))).far (p := ⟨q, 1, none⟩) (fun e => by simp at e; omega) (.slice A1 l1 e1)).far (p := ⟨q, 2, none⟩) (fun e => by simp at e; omega) (.int .i64 ky)).far (p := ⟨q, 3, none⟩) (fun e => by simp at e; omega) (.slice A3 l3 e3))
          have HFz := Aside0.mk ((((HI.out.fr.set (p := ⟨q, 0, none⟩) (.inr hle) (.string (str nm))).set (p := ⟨q, 1, none⟩) (.inr hle) (.slice A1 l1 e1)).set (p := ⟨q, 2, none⟩) (.inr hle) (.int .i64 ky)).set (p := ⟨q, 3, none⟩) (.inr hle) (.slice A3 l3 e3))
          have HRz := Aside0.mk (R_put (R_put (R_put (R_put HR1.out (show q < p + 1 by omega) 0 (.string (str nm))) (show q < p + 1 by omega) 1 (.slice A1 l1 e1)) (show q < p + 1 by omega) 2 (.int .i64 ky)) (show q < p + 1 by omega) 3 (.slice A3 l3 e3))
          have HNz := Aside0.mk (R_put (R_put (R_put (R_put HR3.out (show q < m by omega) 0 (.string (str nm))) (show q < m by omega) 1 (.slice A1 l1 e1)) (show q < m by omega) 2 (.int .i64 ky)) (show q < m by omega) 3 (.slice A3 l3 e3))
          go_wp2_with fail
          clear c0 c1 c2 c3 d0 d1 d2 d3 f0 f1 f2 f3
          generalize (((wc.setCell ⟨q, 0, none⟩ (.string (str nm))).setCell ⟨q, 1, none⟩ (.slice A1 l1 e1)).setCell ⟨q, 2, none⟩ (.int .i64 ky)).setCell ⟨q, 3, none⟩ (.slice A3 l3 e3) = wz at *
          have z0 := HZ.out.c0
          have z1 := HZ.out.c1
          have z2 := HZ.out.c2
          have z3 := HZ.out.c3
          refine bodyPost_ret (v := .agg #[.string (str nm), .slice A1 l1 e1, .int .i64 ky, .slice A3 l3 e3]) (by first | (go_simp; done) | (simp [results, Try.f33, go_sem, z0, z1, z2, z3]; done) | (simp [results, Try.f33, go_sem, z0, z1, z2, z3]; rfl)) rfl ?_
          exact ⟨_, rfl, ⟨_, _, rfl, Kd.R_mono (Kd.R_lower HRz.out (by omega)) (fun _ _ => trivial), Kd.R_mono (Kd.R_lower HNz.out (by omega)) (fun _ _ => trivial)⟩, HA.out, HFz.out⟩
end Go.Proofs.Ytjehbnhjaogfkaa.Sc
end
