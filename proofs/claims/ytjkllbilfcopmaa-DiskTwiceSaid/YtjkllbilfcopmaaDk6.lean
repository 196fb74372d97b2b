import Derived.Test.YtjkllbilfcopmaaDk5
namespace Go.Proofs.Ytjkllbilfcopmaa.Dk
open Go.RowKit Go.Proofs.YtjkllbilfcopmaaW.PrintWords Go.Proofs.YtjkllbilfcopmaaW.PrintLast Go.Proofs.YtjkllbilfcopmaaW.PrintMore
set_option linter.unusedVariables false
set_option linter.unusedSimpArgs false
set_option maxRecDepth 100000 in
set_option maxHeartbeats 1000000 in
theorem rename_walk (W : World) (g b : Nat) (d : DS) (h : IsDk W g b d) (s t : ByteArray) (hs : s.size ≤ maxLen) (ht : t.size ≤ maxLen) : Calls Try.prog 17 #[.pointer (some ⟨g, 0, none⟩), .string s, .string t] W fun e W' => e = .returned (.int .i64 (rename d s t).2) ∧ IsDk W' g b (rename d s t).1 ∧ Fr (Two g b) W W' := by
  have HI := Lib.hid h
  have HFi := Lib.hid (rename_fine h.fine s t)
  clear h
  cases hn : nameOk s with
  | false =>
    have hS : rename d s t = (d, 10) := by unfold rename; rw [hn, if_pos rfl]
    rw [hS]
    have HN := Lib.hid hn
    clear hn hS HFi
    go_enter Try.func17, Try.ntmps17
    go_wp2_with fail
    refine (may_walk s _ hs).mono ?_
    rw [HN.out]
    rintro e w' ⟨rfl, rfl⟩
    go_wp2
    go_ret
    exact ⟨rfl, HI.out, Fr.refl _ _⟩
  | true =>
    have HN := Lib.hid hn
    cases hn2 : nameOk t with
    | false =>
      have hS : rename d s t = (d, 10) := by unfold rename; rw [hn, hn2, if_neg (by decide), if_pos rfl]
      rw [hS]
      have HN2 := Lib.hid hn2
      clear hn hn2 hS HFi
      go_enter Try.func17, Try.ntmps17
      go_wp2_with fail
      refine (may_walk s _ hs).mono ?_
      rw [HN.out]
      rintro e w' ⟨rfl, rfl⟩
      go_wp2_with fail
      refine (may_walk t _ ht).mono ?_
      rw [HN2.out]
      rintro e w' ⟨rfl, rfl⟩
      go_wp2
      go_ret
      exact ⟨rfl, HI.out, Fr.refl _ _⟩
    | true =>
      have HN2 := Lib.hid hn2
      obtain ⟨⟨d1, ⟨fh, fs⟩, ec⟩, hk⟩ : ∃ r, altered d s = r := ⟨_, rfl⟩
      have HK := Lib.hid hk
      have hm1 : d1.m = d.m := by have := altered_m d s; rw [hk] at this; exact this
      have HM1 := Lib.hid hm1
      by_cases he : ec = 0
      · subst he
        have hfile : file d s = ⟨fh, fs⟩ := by have := (altered_yes (d := d) (s := s) (by rw [hk])).2.2.2.2; rw [hk] at this; exact this.symm
        have hS : rename d s t = ({ d1 with m := FM.put (FM.del d.m s.data.toList) t.data.toList ⟨fh, fs⟩ }, 0) := by unfold rename; rw [hn, hn2, if_neg (by decide), if_neg (by decide), hk, if_pos rfl, hfile]
        rw [hS] at HFi ⊢
        clear hk hm1 hS hn hn2 hfile
        go_enter Try.func17, Try.ntmps17
        go_wp2_with fail
        refine (may_walk s _ hs).mono ?_
        rw [HN.out]
        rintro e w' ⟨rfl, rfl⟩
        go_wp2_with fail
        refine (may_walk t _ ht).mono ?_
        rw [HN2.out]
        rintro e w' ⟨rfl, rfl⟩
        go_wp2_with fail
        refine (altered_walk W g b d HI.out s hs).mono ?_
        rw [HK.out]
        rintro e W1 ⟨rfl, hI1, hF1⟩
        have hI2 := hI1.below (below_alloc (Below.refl _ _) (.cells #[.string fh, .int .i64 fs] 56))
        have hF2 := hF1.alloc (.cells #[.string fh, .int .i64 fs] 56)
        have h6 : FlAt (W1.alloc (.cells #[.string fh, .int .i64 fs] 56)) W1.heap.size ⟨fh, fs⟩ := heap_alloc_new W1 _
        simp only [fileV]
        have c0 := (blk_cell hI2.blk 0).trans (show _ = some (Value.map (some b)) from rfl)
        have HI2 := Lib.hid hI2
        have HF2 := Lib.hid hF2
        have H6 := Lib.hid h6
        clear hI1 hF1 hI2 hF2 h6
        have hfd : ∀ (W4 : World), Own W4 b (FM.del d.m s.data.toList) → (W1.alloc (.cells #[.string fh, .int .i64 fs] 56)).grownBy W4 (some b) → IsDk W4 g b { d1 with m := FM.del d.m s.data.toList } ∧ Fr (Two g b) (W1.alloc (.cells #[.string fh, .int .i64 fs] 56)) W4 := fun W4 ho hg =>
          HI2.out.turn ho hg ⟨fun p hp => HI2.out.fine.fls p (by rw [HM1.out]; exact (FM.mem_del.1 hp).1), Nat.le_trans (FM.len_del _ _) (by rw [← HM1.out]; exact HI2.out.fine.many), HI2.out.fine.left⟩
        have HD := Lib.hid hfd
        clear hfd
        go_wp2_with (first | (at_delete; refine step_del rfl _ _ rfl b d1.m rfl HI2.out.own s rfl hs ?_; intro W4 ho hg; rw [HM1.out] at ho; have HT := Lib.hid (HD.out W4 ho hg); have HF4 := Lib.hid (HF2.out.trans HT.out.2); clear ho hg c0))
        have hI4 := HT.out.1
        have h64 := H6.out.fr HT.out.2 (H6.out.not_two HI2.out)
        have hF4 := HF4.out
        generalize W1.heap.size = k6 at h64 ⊢
        have c0 : ({ W4 with drawn := W4.drawn + 1 } : World).cell? ⟨g, 0, none⟩ = some (.map (some b)) := (blk_cell hI4.blk 0).trans rfl
        have c60 : ({ W4 with drawn := W4.drawn + 1 } : World).cell? ⟨k6, 0, none⟩ = some (.string fh) := h64.cells.1
        have c61 : ({ W4 with drawn := W4.drawn + 1 } : World).cell? ⟨k6, 1, none⟩ = some (.int .i64 fs) := h64.cells.2.1
        have HI5 := Lib.hid (hI4.move rfl rfl : IsDk { W4 with drawn := W4.drawn + 1 } g b { d1 with m := FM.del d.m s.data.toList })
        have HF5 := Lib.hid (show Fr (Two g b) W { W4 with drawn := W4.drawn + 1 } from hF4.drew)
        clear hI4 h64 hF4 HT HF4
        refine wp_region_still_tail 6 (by kernel_rfl) (by kernel_rfl) ?_
        simp only [List.take_succ_cons, List.take_zero, List.drop_succ_cons, List.drop_zero]
        generalize ({ W4 with drawn := W4.drawn + 1 } : World) = W5 at *
        repeat still_step
        refine wpStill_nil ?_
        refine step_put rfl _ _ _ rfl b (FM.del d.m s.data.toList) rfl HI5.out.own (Nat.le_trans HI5.out.fine.many (by decide)) t ⟨fh, fs⟩ rfl rfl ht ?_
        intro W6 ho hg
        have HT := Lib.hid (HI5.out.turn ho hg HFi.out)
        have HF6 := Lib.hid (HF5.out.trans HT.out.2)
        clear ho hg c0 c60 c61
        go_wp2
        go_ret
        exact ⟨rfl, HT.out.1, HF6.out⟩
      · have hS : rename d s t = (d1, ec) := by unfold rename; rw [hn, hn2, if_neg (by decide), if_neg (by decide), hk, if_neg he]
        rw [hS]
        have heb : (ec == 0) = false := by simpa using he
        clear hk hm1 hS he hn hn2
        go_enter Try.func17, Try.ntmps17
        go_wp2_with fail
        refine (may_walk s _ hs).mono ?_
        rw [HN.out]
        rintro e w' ⟨rfl, rfl⟩
        go_wp2_with fail
        refine (may_walk t _ ht).mono ?_
        rw [HN2.out]
        rintro e w' ⟨rfl, rfl⟩
        go_wp2_with fail
        refine (altered_walk W g b d HI.out s hs).mono ?_
        rw [HK.out]
        rintro e W1 ⟨rfl, hI1, hF1⟩
        have HI2 := Lib.hid (hI1.below (below_alloc (Below.refl _ _) (.cells #[.string fh, .int .i64 fs] 56)))
        have HF2 := Lib.hid (hF1.alloc (.cells #[.string fh, .int .i64 fs] 56))
        simp only [fileV]
        clear hI1 hF1
        go_wp2
        go_ret
        exact ⟨rfl, HI2.out, HF2.out⟩
end Go.Proofs.Ytjkllbilfcopmaa.Dk
