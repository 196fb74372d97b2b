import Derived.Test.YtjkllbilfcopmaaDk2
namespace Go.Proofs.Ytjkllbilfcopmaa.Dk
open Go.RowKit Go.Proofs.YtjkllbilfcopmaaW.PrintWords Go.Proofs.YtjkllbilfcopmaaW.PrintLast Go.Proofs.YtjkllbilfcopmaaW.PrintMore
set_option linter.unusedVariables false
set_option linter.unusedSimpArgs false
/-- A file's variable at block k. -/
def FlAt (W : World) (k : Nat) (f : Fl) : Prop := W.heap[k]? = some (.cells #[.string f.has, .int .i64 f.safe] 56 (0, 0))
theorem FlAt.lt {W : World} {k : Nat} {f : Fl} (h : FlAt W k f) : k < W.heap.size := blk_lt h
theorem FlAt.fr {W W1 : World} {k : Nat} {f : Fl} {S : Nat → Prop} (h : FlAt W k f) (hf : Fr S W W1) (hk : ¬ S k) : FlAt W1 k f := (hf.block k h.lt hk).trans h
theorem FlAt.below {W W1 : World} {k : Nat} {f : Fl} (h : FlAt W k f) (hb : Below W.heap.size W W1) : FlAt W1 k f := (hb.block k h.lt).trans h
theorem FlAt.not_two {W : World} {k g b : Nat} {f : Fl} {d : DS} (h : FlAt W k f) (hI : IsDk W g b d) : ¬ Two g b k := by
  rintro (e | e)
  · subst e
    have := h.symm.trans hI.blk
    cases this
  · subst e
    obtain ⟨es, cl, hb, _⟩ := hI.own
    rw [show W.heap[k]? = _ from h] at hb
    cases hb
theorem FlAt.cells {W : World} {k : Nat} {f : Fl} (h : FlAt W k f) : W.cell? ⟨k, 0, none⟩ = some (.string f.has) ∧ W.cell? ⟨k, 1, none⟩ = some (.int .i64 f.safe) ∧ W.frozen? ⟨k, 0, none⟩ = false ∧ W.frozen? ⟨k, 1, none⟩ = false :=
  ⟨(blk_cell h 0).trans rfl, (blk_cell h 1).trans rfl, blk_frozen h 0, blk_frozen h 1⟩
theorem FlAt.put {W : World} {k : Nat} {f : Fl} (h : FlAt W k f) (q : Fl) : FlAt ((W.setCell ⟨k, 0, none⟩ (.string q.has)).setCell ⟨k, 1, none⟩ (.int .i64 q.safe)) k q := blk_put (blk_put h 0 _ rfl) 1 _ rfl
theorem IsDk.setFar {W : World} {g b k : Nat} {d : DS} (h : IsDk W g b d) (hk : ¬ Two g b k) (j : Nat) (u : Value) : IsDk (W.setCell ⟨k, j, none⟩ u) g b d :=
  h.move (Below.heap_setCell W ⟨k, j, none⟩ u g fun e => hk (.inl e.symm)) (Below.heap_setCell W ⟨k, j, none⟩ u b fun e => hk (.inr e.symm))
set_option maxHeartbeats 1000000 in
theorem altered_walk (W : World) (g b : Nat) (d : DS) (h : IsDk W g b d) (s : ByteArray) (hs : s.size ≤ maxLen) : Calls Try.prog 26 #[.pointer (some ⟨g, 0, none⟩), .string s] W fun e W' => e = .returned (.tuple #[fileV (altered d s).2.1, .int .i64 (altered d s).2.2]) ∧ IsDk W' g b (altered d s).1 ∧ Fr (Two g b) W W' := by
  have HI := Lib.hid h
  clear h
  obtain ⟨⟨⟨fh, fs⟩, ec⟩, hk⟩ : ∃ r, known d s = r := ⟨_, rfl⟩
  have HK := Lib.hid hk
  by_cases he : ec = 0
  · subst he
    cases hok : d.ok with
    | true =>
      have HA : Hid (altered d s = (d.chg, ⟨fh, fs⟩, 0)) := Lib.hid (by unfold altered; rw [hk, hok]; rfl)
      rw [HA.out]
      have HOK := Lib.hid hok
      clear hk hok
      go_enter Try.func26, Try.ntmps26
      go_wp2_with fail
      refine (known_walk _ g b d (HI.out.below (below_alloc (Below.refl _ _) _)) s hs).mono ?_
      rw [HK.out]
      rintro e W1 ⟨rfl, hB1⟩
      have h4 : FlAt W1 W.heap.size z0 := (hB1.block _ (by simp)).trans (heap_alloc_new W _)
      have HB1 := Lib.hid ((below_alloc (Below.refl _ _) _).trans (hB1.mono (by simp)) : Below W.heap.size W W1)
      have H4 := Lib.hid h4
      simp only [fileV]
      clear hB1 h4
      go_wp2_with fail
      have hI1 : IsDk (W1.alloc (.cells #[.string fh, .int .i64 fs] 56)) g b d := HI.out.below (HB1.out.trans ((below_alloc (Below.refl _ _) _).mono HB1.out.size))
      have h6 : FlAt (W1.alloc (.cells #[.string fh, .int .i64 fs] 56)) W1.heap.size ⟨fh, fs⟩ := heap_alloc_new W1 _
      have h4 : FlAt (W1.alloc (.cells #[.string fh, .int .i64 fs] 56)) W.heap.size z0 := H4.out.below (below_alloc (Below.refl _ _) _)
      have hn6 := h6.not_two hI1
      have hn4 := h4.not_two hI1
      refine (chg_walk _ g b d hI1).mono ?_
      rintro e W2 ⟨rfl, hI2, hF2⟩
      have h6' := h6.fr hF2 hn6
      have h4' := h4.fr hF2 hn4
      have HI2 := Lib.hid hI2
      have HF2 := Lib.hid ((Fr.of_below HB1.out).alloc (.cells #[.string fh, .int .i64 fs] 56) |>.trans hF2)
      have hlt4 := H4.out.lt
      obtain ⟨k4, hk4⟩ : ∃ k, W.heap.size = k := ⟨_, rfl⟩
      obtain ⟨k6, hk6⟩ : ∃ k, W1.heap.size = k := ⟨_, rfl⟩
      rw [hk4] at h4'
      rw [hk6] at h6'
      obtain ⟨c40, c41, f40, f41⟩ := h4'.cells
      obtain ⟨c60, c61, f60, f61⟩ := h6'.cells
      have H4 := Lib.hid (And.intro h4' (Nat.le_of_eq hk4))
      rw [hk4, hk6]
      have HN := Lib.hid (And.intro hn4 hn6)
      clear h6 h4 hI1 hI2 hF2 h6' h4' hk4 hk6 hn4 hn6 hlt4
      rw [HOK.out]
      go_wp2
      have hF := H4.out.1.put ⟨fh, fs⟩
      have x0 := World.cell?_setCell_same' W2 ⟨k4, 0, none⟩ (.string fh) (by rw [c40]; rfl)
      have x1 := hF.cells.2.1
      exact bodyPost_ret (v := .tuple #[fileV ⟨fh, fs⟩, .int .i64 0]) (by simp [results, Try.results26, go_sem, fileV, x0, x1]) rfl ⟨rfl, (HI2.out.setFar (H4.out.1.not_two HI2.out) _ _).setFar (H4.out.1.not_two HI2.out) _ _, (HF2.out.set (.inr H4.out.2) _).set (.inr H4.out.2) _⟩
    | false =>
      have HA : Hid (altered d s = (d.chg, ⟨fh, fs⟩, 11)) := Lib.hid (by unfold altered; rw [hk, hok]; rfl)
      rw [HA.out]
      have HOK := Lib.hid hok
      clear hk hok
      go_enter Try.func26, Try.ntmps26
      go_wp2_with fail
      refine (known_walk _ g b d (HI.out.below (below_alloc (Below.refl _ _) _)) s hs).mono ?_
      rw [HK.out]
      rintro e W1 ⟨rfl, hB1⟩
      have h4 : FlAt W1 W.heap.size z0 := (hB1.block _ (by simp)).trans (heap_alloc_new W _)
      have HB1 := Lib.hid ((below_alloc (Below.refl _ _) _).trans (hB1.mono (by simp)) : Below W.heap.size W W1)
      have H4 := Lib.hid h4
      simp only [fileV]
      clear hB1 h4
      go_wp2_with fail
      have hI1 : IsDk (W1.alloc (.cells #[.string fh, .int .i64 fs] 56)) g b d := HI.out.below (HB1.out.trans ((below_alloc (Below.refl _ _) _).mono HB1.out.size))
      have h6 : FlAt (W1.alloc (.cells #[.string fh, .int .i64 fs] 56)) W1.heap.size ⟨fh, fs⟩ := heap_alloc_new W1 _
      have h4 : FlAt (W1.alloc (.cells #[.string fh, .int .i64 fs] 56)) W.heap.size z0 := H4.out.below (below_alloc (Below.refl _ _) _)
      have hn6 := h6.not_two hI1
      have hn4 := h4.not_two hI1
      refine (chg_walk _ g b d hI1).mono ?_
      rintro e W2 ⟨rfl, hI2, hF2⟩
      have h6' := h6.fr hF2 hn6
      have h4' := h4.fr hF2 hn4
      have HI2 := Lib.hid hI2
      have HF2 := Lib.hid ((Fr.of_below HB1.out).alloc (.cells #[.string fh, .int .i64 fs] 56) |>.trans hF2)
      have hlt4 := H4.out.lt
      obtain ⟨k4, hk4⟩ : ∃ k, W.heap.size = k := ⟨_, rfl⟩
      obtain ⟨k6, hk6⟩ : ∃ k, W1.heap.size = k := ⟨_, rfl⟩
      rw [hk4] at h4'
      rw [hk6] at h6'
      obtain ⟨c40, c41, f40, f41⟩ := h4'.cells
      obtain ⟨c60, c61, f60, f61⟩ := h6'.cells
      have H4 := Lib.hid (And.intro h4' (Nat.le_of_eq hk4))
      rw [hk4, hk6]
      have HN := Lib.hid (And.intro hn4 hn6)
      clear h6 h4 hI1 hI2 hF2 h6' h4' hk4 hk6 hn4 hn6 hlt4
      rw [HOK.out]
      go_wp2
      have hF := H4.out.1.put ⟨fh, fs⟩
      have x0 := World.cell?_setCell_same' W2 ⟨k4, 0, none⟩ (.string fh) (by rw [c40]; rfl)
      have x1 := hF.cells.2.1
      exact bodyPost_ret (v := .tuple #[fileV ⟨fh, fs⟩, .int .i64 11]) (by simp [results, Try.results26, go_sem, fileV, x0, x1]) rfl ⟨rfl, (HI2.out.setFar (H4.out.1.not_two HI2.out) _ _).setFar (H4.out.1.not_two HI2.out) _ _, (HF2.out.set (.inr H4.out.2) _).set (.inr H4.out.2) _⟩
  · have HA : Hid (altered d s = (d, ⟨fh, fs⟩, ec)) := Lib.hid (by unfold altered; rw [hk, if_neg he])
    rw [HA.out]
    have heb : (ec == 0) = false := by simpa using he
    clear hk he
    go_enter Try.func26, Try.ntmps26
    go_wp2_with fail
    refine (known_walk _ g b d (HI.out.below (below_alloc (Below.refl _ _) _)) s hs).mono ?_
    rw [HK.out]
    rintro e W1 ⟨rfl, hB1⟩
    have h4 : FlAt W1 W.heap.size z0 := (hB1.block _ (by simp)).trans (heap_alloc_new W _)
    have HB1 := Lib.hid ((below_alloc (Below.refl _ _) _).trans (hB1.mono (by simp)) : Below W.heap.size W W1)
    simp only [fileV]
    have h4b : FlAt (W1.alloc (.cells #[.string fh, .int .i64 fs] 56)) W.heap.size z0 := h4.below (below_alloc (Below.refl _ _) _)
    have hI1 : IsDk (W1.alloc (.cells #[.string fh, .int .i64 fs] 56)) g b d := HI.out.below (HB1.out.trans ((below_alloc (Below.refl _ _) _).mono HB1.out.size))
    have H5 := Lib.hid (And.intro h4b hI1)
    have hne : W1.heap.size ≠ W.heap.size := by have := h4.lt; omega
    obtain ⟨k4, hk4⟩ : ∃ k, W.heap.size = k := ⟨_, rfl⟩
    rw [hk4] at h4 h4b hne
    obtain ⟨c40, c41, f40, f41⟩ := h4b.cells
    have H4 := Lib.hid (And.intro h4b (Nat.le_of_eq hk4))
    rw [hk4]
    clear h4 h4b hk4 hB1 hI1
    go_wp2
    have hF := H4.out.1.put ⟨fh, fs⟩
    have x0 := World.cell?_setCell_same' (W1.alloc (.cells #[.string fh, .int .i64 fs] 56)) ⟨k4, 0, none⟩ (.string fh) (by rw [c40]; rfl)
    have x1 := hF.cells.2.1
    exact bodyPost_ret (v := .tuple #[fileV ⟨fh, fs⟩, .int .i64 ec]) (by simp [results, Try.results26, go_sem, fileV, x0, x1]) rfl ⟨rfl, (H5.out.2.setFar (H4.out.1.not_two H5.out.2) _ _).setFar (H4.out.1.not_two H5.out.2) _ _, (((Fr.of_below HB1.out).alloc _).set (.inr H4.out.2) _).set (.inr H4.out.2) _⟩
end Go.Proofs.Ytjkllbilfcopmaa.Dk
