import Derived.Test.YtjkllbilfcopmaaDk3
namespace Go.Proofs.Ytjkllbilfcopmaa.Dk
open Go.RowKit Go.Proofs.YtjkllbilfcopmaaW.PrintWords Go.Proofs.YtjkllbilfcopmaaW.PrintLast Go.Proofs.YtjkllbilfcopmaaW.PrintMore
set_option linter.unusedVariables false
set_option linter.unusedSimpArgs false
theorem IsDk.turn {W W2 : World} {g b : Nat} {d : DS} (h : IsDk W g b d) {m : Fs} (ho : Own W2 b m) (hg : W.grownBy W2 (some b)) (hf : Fine { d with m := m }) : IsDk W2 g b { d with m := m } ∧ Fr (Two g b) W W2 :=
  ⟨⟨(hg.block g h.lt.1 fun e => h.ne (Option.some.inj e)).trans h.blk, ho, hf⟩, (Fr.refl _ _).grown hg (.inr rfl)⟩
theorem altered_m (d : DS) (s : ByteArray) : (altered d s).1.m = d.m := by
  unfold altered; split
  · exact chg_m d
  · rfl
set_option maxRecDepth 100000 in
set_option maxHeartbeats 1000000 in
theorem sync_walk (W : World) (g b : Nat) (d : DS) (h : IsDk W g b d) (s : ByteArray) (hs : s.size ≤ maxLen) : Calls Try.prog 12 #[.pointer (some ⟨g, 0, none⟩), .string s] W fun e W' => e = .returned (.int .i64 (sync d s).2) ∧ IsDk W' g b (sync d s).1 ∧ Fr (Two g b) W W' := by
  have HI := Lib.hid h
  have HFi := Lib.hid (sync_fine h.fine s)
  clear h
  obtain ⟨⟨d1, ⟨fh, fs⟩, ec⟩, hk⟩ : ∃ r, altered d s = r := ⟨_, rfl⟩
  have HK := Lib.hid hk
  have hm1 : d1.m = d.m := by have := altered_m d s; rw [hk] at this; exact this
  have HM1 := Lib.hid hm1
  by_cases he : ec = 0
  · subst he
    have hfile : file d s = ⟨fh, fs⟩ := by have := (altered_yes (d := d) (s := s) (by rw [hk])).2.2.2.2; rw [hk] at this; exact this.symm
    have hS : sync d s = ({ d1 with m := FM.put d.m s.data.toList ⟨fh, fh.size⟩ }, 0) := by unfold sync; rw [hk, if_pos rfl, hfile]
    rw [hS] at HFi ⊢
    clear hk hm1 hfile hS
    go_enter Try.func12, Try.ntmps12
    go_wp2_with fail
    refine (altered_walk W g b d HI.out s hs).mono ?_
    rw [HK.out]
    rintro e W1 ⟨rfl, hI1, hF1⟩
    have hI2 := hI1.below (below_alloc (Below.refl _ _) (.cells #[.string fh, .int .i64 fs] 56))
    have h6 : FlAt (W1.alloc (.cells #[.string fh, .int .i64 fs] 56)) W1.heap.size ⟨fh, fs⟩ := heap_alloc_new W1 _
    have hF2 := hF1.alloc (.cells #[.string fh, .int .i64 fs] 56)
    simp only [fileV]
    go_wp2_with fail
    generalize W1.alloc (.cells #[.string fh, .int .i64 fs] 56) = W2 at hI2 h6 hF2 ⊢
    generalize W1.heap.size = k6 at h6 ⊢
    have c0 : ({ W2 with drawn := W2.drawn + 1 } : World).cell? ⟨g, 0, none⟩ = some (.map (some b)) := (blk_cell hI2.blk 0).trans rfl
    have c60 : ({ W2 with drawn := W2.drawn + 1 } : World).cell? ⟨k6, 0, none⟩ = some (.string fh) := h6.cells.1
    have HI2 := Lib.hid (hI2.move rfl rfl : IsDk { W2 with drawn := W2.drawn + 1 } g b d1)
    have HF2 := Lib.hid (show Fr (Two g b) W { W2 with drawn := W2.drawn + 1 } from hF2.drew)
    clear hI1 hF1 hI2 h6 hF2
    refine wp_region_still_tail 11 (by kernel_rfl) (by kernel_rfl) ?_
    simp only [List.take_succ_cons, List.take_zero, List.drop_succ_cons, List.drop_zero]
    generalize ({ W2 with drawn := W2.drawn + 1 } : World) = W3 at *
    repeat still_step
    refine wpStill_nil ?_
    refine step_put rfl _ _ _ rfl b d1.m rfl HI2.out.own (Nat.le_trans HI2.out.fine.many (by decide)) s ⟨fh, fh.size⟩ rfl rfl hs ?_
    intro W4 ho hg
    rw [HM1.out] at ho
    have HT := Lib.hid (HI2.out.turn ho hg HFi.out)
    have HF4 := Lib.hid (HF2.out.trans HT.out.2)
    clear ho hg c0 c60
    go_wp2
    go_ret
    exact ⟨rfl, HT.out.1, HF4.out⟩
  · have hS : sync d s = (d1, ec) := by unfold sync; rw [hk, if_neg he]
    rw [hS]
    have heb : (ec == 0) = false := by simpa using he
    clear hk hm1 hS he
    go_enter Try.func12, Try.ntmps12
    go_wp2_with fail
    refine (altered_walk W g b d HI.out s hs).mono ?_
    rw [HK.out]
    rintro e W1 ⟨rfl, hI1, hF1⟩
    have HI2 := Lib.hid (hI1.below (below_alloc (Below.refl _ _) (.cells #[.string fh, .int .i64 fs] 56)))
    have HF2 := Lib.hid (hF1.alloc (.cells #[.string fh, .int .i64 fs] 56))
    simp only [fileV]
    clear hI1 hF1
    go_wp2
    go_ret
    exact ⟨rfl, HI2.out, HF2.out⟩
end Go.Proofs.Ytjkllbilfcopmaa.Dk
