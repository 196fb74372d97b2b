import Derived.Test.YtjkllbilfcopmaaDk4
namespace Go.Proofs.Ytjkllbilfcopmaa.Dk
open Go.RowKit Go.Proofs.YtjkllbilfcopmaaW.PrintWords Go.Proofs.YtjkllbilfcopmaaW.PrintLast Go.Proofs.YtjkllbilfcopmaaW.PrintMore
set_option linter.unusedVariables false
set_option linter.unusedSimpArgs false
theorem read_walk (W : World) (g b : Nat) (d : DS) (h : IsDk W g b d) (s : ByteArray) (hs : s.size ≤ maxLen) : Calls Try.prog 14 #[.pointer (some ⟨g, 0, none⟩), .string s] W fun e W' => e = .returned (.tuple #[.string (read d s).1, .int .i64 (read d s).2]) ∧ Below W.heap.size W W' := by
  have HI := Lib.hid h
  clear h
  obtain ⟨⟨⟨fh, fs⟩, ec⟩, hk⟩ : ∃ r, known d s = r := ⟨_, rfl⟩
  have HK := Lib.hid hk
  have hR : read d s = (fh, ec) := by unfold read; rw [hk]
  rw [hR]
  clear hk hR
  go_enter Try.func14, Try.ntmps14
  go_wp2_with fail
  refine (known_walk _ g b d HI.out s hs).mono ?_
  rw [HK.out]
  rintro e W1 ⟨rfl, hB1⟩
  have HB := Lib.hid (below_alloc hB1 (.cells #[.string fh, .int .i64 fs] 56))
  simp only [fileV]
  clear hB1
  go_wp2
  go_ret2
  exact ⟨rfl, HB.out⟩
set_option maxRecDepth 100000 in
set_option maxHeartbeats 1000000 in
theorem fuse_walk (W : World) (g b : Nat) (d : DS) (h : IsDk W g b d) (n : Int) (hn : n ≤ 9223372036854775807) : Calls Try.prog 16 #[.pointer (some ⟨g, 0, none⟩), .int .i64 n] W fun e W' => e = .returned (.int .i64 (fuse d n).2) ∧ IsDk W' g b (fuse d n).1 ∧ Fr (Two g b) W W' := by
  have HI := Lib.hid h
  have HFi := Lib.hid (fuse_fine h.fine n hn)
  by_cases hlt : n < 0
  · have hR : fuse d n = (d, 1) := by unfold fuse; rw [if_pos hlt]
    rw [hR]
    clear h hR HFi
    go_enter Try.func16, Try.ntmps16
    go_wp2
    go_ret
    exact ⟨rfl, HI.out, Fr.refl _ _⟩
  · have hR : fuse d n = ({ d with fused := true, left := n }, 0) := by unfold fuse; rw [if_neg hlt]
    rw [hR] at HFi ⊢
    have hge : 0 ≤ n := by omega
    have c1 := (blk_cell h.blk 1).trans (show _ = some (Value.bool d.fused) from rfl)
    have c3 := (blk_cell h.blk 3).trans (show _ = some (Value.int .i64 d.left) from rfl)
    have f1 := blk_frozen h.blk 1
    have f3 := blk_frozen h.blk 3
    clear h hR hlt
    go_enter Try.func16, Try.ntmps16
    go_wp2
    go_ret
    refine ⟨rfl, ⟨blk_put (blk_put HI.out.blk 1 _ rfl) 3 _ rfl, own_move (W := W.setCell ⟨g, 1, none⟩ (.bool true)) (own_move HI.out.own ?_) ?_, HFi.out⟩, ((Fr.refl _ _).set (.inl (.inl rfl)) _).set (.inl (.inl rfl)) _⟩
    · exact Below.heap_setCell W ⟨g, 1, none⟩ _ b fun e => HI.out.ne e.symm
    · exact Below.heap_setCell _ ⟨g, 3, none⟩ _ b fun e => HI.out.ne e.symm
set_option maxRecDepth 100000 in
set_option maxHeartbeats 1000000 in
theorem remove_walk (W : World) (g b : Nat) (d : DS) (h : IsDk W g b d) (s : ByteArray) (hs : s.size ≤ maxLen) : Calls Try.prog 32 #[.pointer (some ⟨g, 0, none⟩), .string s] W fun e W' => e = .returned (.int .i64 (remove d s).2) ∧ IsDk W' g b (remove d s).1 ∧ Fr (Two g b) W W' := by
  have HI := Lib.hid h
  have HFi := Lib.hid (remove_fine h.fine s)
  clear h
  obtain ⟨⟨d1, ⟨fh, fs⟩, ec⟩, hk⟩ : ∃ r, altered d s = r := ⟨_, rfl⟩
  have HK := Lib.hid hk
  have hm1 : d1.m = d.m := by have := altered_m d s; rw [hk] at this; exact this
  have HM1 := Lib.hid hm1
  by_cases he : ec = 0
  · subst he
    have hS : remove d s = ({ d1 with m := FM.del d.m s.data.toList }, 0) := by unfold remove; rw [hk, if_pos rfl]
    rw [hS] at HFi ⊢
    clear hk hm1 hS
    go_enter Try.func32, Try.ntmps32
    go_wp2_with fail
    refine (altered_walk W g b d HI.out s hs).mono ?_
    rw [HK.out]
    rintro e W1 ⟨rfl, hI1, hF1⟩
    have hI2 := hI1.below (below_alloc (Below.refl _ _) (.cells #[.string fh, .int .i64 fs] 56))
    have hF2 := hF1.alloc (.cells #[.string fh, .int .i64 fs] 56)
    simp only [fileV]
    have c0 := (blk_cell hI2.blk 0).trans (show _ = some (Value.map (some b)) from rfl)
    have HI2 := Lib.hid hI2
    have HF2 := Lib.hid hF2
    clear hI1 hF1 hI2 hF2
    go_wp2_with (first | (at_delete; refine step_del rfl _ _ rfl b d1.m rfl HI2.out.own s rfl hs ?_; intro W4 ho hg; rw [HM1.out] at ho; have HT := Lib.hid (HI2.out.turn ho hg HFi.out); have HF4 := Lib.hid (HF2.out.trans HT.out.2); clear ho hg c0))
    go_ret
    exact ⟨rfl, HT.out.1, HF4.out⟩
  · have hS : remove d s = (d1, ec) := by unfold remove; rw [hk, if_neg he]
    rw [hS]
    have heb : (ec == 0) = false := by simpa using he
    clear hk hm1 hS he
    go_enter Try.func32, Try.ntmps32
    go_wp2_with fail
    refine (altered_walk W g b d HI.out s hs).mono ?_
    rw [HK.out]
    rintro e W1 ⟨rfl, hI1, hF1⟩
    have HI2 := Lib.hid (hI1.below (below_alloc (Below.refl _ _) (.cells #[.string fh, .int .i64 fs] 56)))
    have HF2 := Lib.hid (hF1.alloc (.cells #[.string fh, .int .i64 fs] 56))
    simp only [fileV]
    clear hI1 hF1
    go_wp2
    go_ret
    exact ⟨rfl, HI2.out, HF2.out⟩
end Go.Proofs.Ytjkllbilfcopmaa.Dk
