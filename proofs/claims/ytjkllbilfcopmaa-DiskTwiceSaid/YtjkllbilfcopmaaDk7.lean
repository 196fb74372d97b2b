import Derived.Test.YtjkllbilfcopmaaDk6
import Derived.Test.YtjkllbilfcopmaaDiskLaw2
namespace Go.Proofs.Ytjkllbilfcopmaa.Dk
open Go.RowKit Go.Proofs.YtjkllbilfcopmaaW.PrintWords Go.Proofs.YtjkllbilfcopmaaW.PrintLast Go.Proofs.YtjkllbilfcopmaaW.PrintMore
set_option linter.unusedVariables false
set_option linter.unusedSimpArgs false
set_option maxRecDepth 100000 in
set_option maxHeartbeats 4000000 in
theorem append_walk (W : World) (g b : Nat) (d : DS) (h : IsDk W g b d) (s t : ByteArray) (hs : s.size ≤ maxLen) (ht : t.size ≤ 140737488351232) : Calls Try.prog 11 #[.pointer (some ⟨g, 0, none⟩), .string s, .string t] W fun e W' => e = .returned (.int .i64 (append d s t).2) ∧ IsDk W' g b (append d s t).1 ∧ Fr (Two g b) W W' := by
  have HI := Lib.hid h
  have HFi := Lib.hid (append_fine h.fine s t)
  have hfz := (h.fine.file s).2.2
  have c0 := (blk_cell h.blk 0).trans (show _ = some (Value.map (some b)) from rfl)
  clear h
  cases hn : nameOk s with
  | false =>
    have hS : append d s t = (d, 10) := by unfold append; rw [hn, if_pos rfl]
    rw [hS]
    have HN := Lib.hid hn
    clear hn hS HFi hfz
    go_enter Try.func11, Try.ntmps11
    go_wp2_with fail
    refine (may_walk s _ hs).mono ?_
    rw [HN.out]
    rintro e w' ⟨rfl, rfl⟩
    go_wp2
    go_ret
    exact ⟨rfl, HI.out, Fr.refl _ _⟩
  | true =>
    have HN := Lib.hid hn
    obtain ⟨⟨fh, fs⟩, hf⟩ : ∃ f, file d s = f := ⟨_, rfl⟩
    rw [hf] at hfz
    have hfz' : fh.size ≤ 262144 := hfz
    have HF := Lib.hid (show (FM.get d.m s.data.toList).getD z0 = ⟨fh, fs⟩ from hf)
    have hI1 := HI.out.below (below_alloc (Below.refl _ _) (.cells #[.string fh, .int .i64 fs] 56))
    have h6 : FlAt (W.alloc (.cells #[.string fh, .int .i64 fs] 56)) W.heap.size ⟨fh, fs⟩ := heap_alloc_new W _
    have HI1 := Lib.hid hI1
    have H6 := Lib.hid h6
    have HFr := Lib.hid ((Fr.refl (Two g b) W).alloc (.cells #[.string fh, .int .i64 fs] 56))
    have hc1 := (blk_cell hI1.blk 0).trans (show _ = some (Value.map (some b)) from rfl)
    clear hI1 h6 hfz
    by_cases hbig : 262144 < fh.size + t.size
    · have hS : append d s t = (d, 2) := by unfold append; rw [hn, if_neg (by decide), hf, if_pos hbig]
      rw [hS]
      have hbig' : (262144 : Int) < (fh.size : Int) + (t.size : Int) := by omega
      clear hn hf hS hbig HFi
      go_enter Try.func11, Try.ntmps11
      go_wp2_with fail
      refine (may_walk s _ hs).mono ?_
      rw [HN.out]
      rintro e w' ⟨rfl, rfl⟩
      go_wp2_with (first | (at_lookup; refine step_look rfl _ _ rfl b d.m rfl HI.out.own s rfl hs ?_; rw [HF.out]; simp only [fileV]))
      go_wp2
      go_ret
      exact ⟨rfl, HI1.out, HFr.out⟩
    · have hbig' : (fh.size : Int) + (t.size : Int) ≤ 262144 := by omega
      cases hth : there d s with
      | false =>
        by_cases hm : 64 ≤ d.m.length
        · have hlen := HI1.out.own.len Try.underlying51 3
          rw [FM.toD_size] at hlen
          have hS : append d s t = (d, 2) := by unfold append; rw [hn, if_neg (by decide), hf, if_neg hbig, if_pos ⟨hth, hm⟩]
          rw [hS]
          have HT := Lib.hid (show (FM.get d.m s.data.toList).isSome = false from hth)
          have hm' : (64 : Int) ≤ (d.m.length : Int) := by omega
          clear hn hf hS hbig HFi hth hm
          go_enter Try.func11, Try.ntmps11
          go_wp2_with fail
          refine (may_walk s _ hs).mono ?_
          rw [HN.out]
          rintro e w' ⟨rfl, rfl⟩
          go_wp2_with (first | (at_lookup; refine step_look rfl _ _ rfl b d.m rfl HI.out.own s rfl hs ?_; rw [HT.out, HF.out]; simp only [fileV]))
          go_ret
          exact ⟨rfl, HI1.out, HFr.out⟩
        · have hlen := HI1.out.own.len Try.underlying51 3
          rw [FM.toD_size] at hlen
          have hm' : (d.m.length : Int) < 64 := by omega
          have HT := Lib.hid (show (FM.get d.m s.data.toList).isSome = false from hth)
          have hsm : there d s = true ∨ d.m.length < 64 := .inr (by omega)
          have hA := append_eq d s t hn (by rw [hf]; show fh.size + t.size ≤ _; omega) hsm
          rw [hf] at hA
          have hcat : ¬ 9223372036854775807 < fh.size + t.size := by omega
          cases hok : d.ok with
          | false =>
            rw [hok, if_pos rfl] at hA
            rw [hA] at HFi ⊢
            have HOK := Lib.hid hok
            clear hn hf hbig hth hok hA hsm hm
            go_enter Try.func11, Try.ntmps11
            go_wp2_with fail
            refine (may_walk s _ hs).mono ?_
            rw [HN.out]
            rintro e w' ⟨rfl, rfl⟩
            go_wp2_with (first | (at_lookup; refine step_look rfl _ _ rfl b d.m rfl HI.out.own s rfl hs ?_; rw [HT.out, HF.out]; simp only [fileV]))
            refine (chg_walk _ g b d HI1.out).mono ?_
            rw [HOK.out]
            rintro e W2 ⟨rfl, hI2, hF2⟩
            have H62 := Lib.hid (H6.out.fr hF2 (H6.out.not_two HI1.out))
            have HI2 := Lib.hid hI2
            have HF2 := Lib.hid (HFr.out.trans hF2)
            clear hI2 hF2 c0 hc1
            go_wp2
            go_ret
            exact ⟨rfl, HI2.out, HF2.out⟩
          | true =>
            rw [hok, if_neg (by decide)] at hA
            rw [hA] at HFi ⊢
            have HOK := Lib.hid hok
            have HC := Lib.hid (chg_m d)
            clear hn hf hbig hth hok hA hsm hm
            go_enter Try.func11, Try.ntmps11
            go_wp2_with fail
            refine (may_walk s _ hs).mono ?_
            rw [HN.out]
            rintro e w' ⟨rfl, rfl⟩
            go_wp2_with (first | (at_lookup; refine step_look rfl _ _ rfl b d.m rfl HI.out.own s rfl hs ?_; rw [HT.out, HF.out]; simp only [fileV]))
            refine (chg_walk _ g b d HI1.out).mono ?_
            rw [HOK.out]
            rintro e W2 ⟨rfl, hI2, hF2⟩
            have H62 := Lib.hid (H6.out.fr hF2 (H6.out.not_two HI1.out))
            have HI2 := Lib.hid hI2
            have HF2 := Lib.hid (HFr.out.trans hF2)
            clear hI2 hF2 c0 hc1
            obtain ⟨k6, hk6⟩ : ∃ k, W.heap.size = k := ⟨_, rfl⟩
            have h62 := H62.out
            rw [hk6] at h62
            have hge := Nat.le_of_eq hk6
            have hn6 := h62.not_two HI2.out
            rw [hk6]
            obtain ⟨c60, c61, f60, f61⟩ := h62.cells
            have HP := Lib.hid (show FlAt (W2.setCell ⟨k6, 0, none⟩ (.string (fh ++ t))) k6 ⟨fh ++ t, fs⟩ from blk_put h62 0 _ rfl)
            have HI3 := Lib.hid (HI2.out.setFar hn6 0 (.string (fh ++ t)))
            have HF3 := Lib.hid (HF2.out.set (p := ⟨k6, 0, none⟩) (.inr hge) (.string (fh ++ t)))
            clear h62 hn6 hk6
            go_wp2_with fail
            generalize W2.setCell ⟨k6, 0, none⟩ (.string (fh ++ t)) = W3 at *
            have hI3 := HI3.out
            have h63 := HP.out
            have c0 : ({ W3 with drawn := W3.drawn + 1 } : World).cell? ⟨g, 0, none⟩ = some (.map (some b)) := (blk_cell hI3.blk 0).trans rfl
            have d60 : ({ W3 with drawn := W3.drawn + 1 } : World).cell? ⟨k6, 0, none⟩ = some (.string (fh ++ t)) := h63.cells.1
            have d61 : ({ W3 with drawn := W3.drawn + 1 } : World).cell? ⟨k6, 1, none⟩ = some (.int .i64 fs) := h63.cells.2.1
            have HI5 := Lib.hid (hI3.move rfl rfl : IsDk { W3 with drawn := W3.drawn + 1 } g b d.chg)
            have HF5 := Lib.hid (show Fr (Two g b) W { W3 with drawn := W3.drawn + 1 } from HF3.out.drew)
            clear hI3 h63 c60 c61 f60 f61
            refine wp_region_still_tail 6 (by kernel_rfl) (by kernel_rfl) ?_
            simp only [List.take_succ_cons, List.take_zero, List.drop_succ_cons, List.drop_zero]
            generalize ({ W3 with drawn := W3.drawn + 1 } : World) = W5 at *
            repeat still_step
            refine wpStill_nil ?_
            refine step_put rfl _ _ _ rfl b d.chg.m rfl HI5.out.own (Nat.le_trans HI5.out.fine.many (by decide)) s ⟨fh ++ t, fs⟩ rfl rfl hs ?_
            intro W6 ho hg
            rw [HC.out] at ho
            have HT6 := Lib.hid (HI5.out.turn ho hg HFi.out)
            have HF6 := Lib.hid (HF5.out.trans HT6.out.2)
            clear ho hg c0 d60 d61
            go_wp2
            go_ret
            exact ⟨rfl, HT6.out.1, HF6.out⟩
      | true =>
        have HT := Lib.hid (show (FM.get d.m s.data.toList).isSome = true from hth)
        have hsm : there d s = true ∨ d.m.length < 64 := .inl hth
        have hA := append_eq d s t hn (by rw [hf]; show fh.size + t.size ≤ _; omega) hsm
        rw [hf] at hA
        have hcat : ¬ 9223372036854775807 < fh.size + t.size := by omega
        cases hok : d.ok with
        | false =>
          rw [hok, if_pos rfl] at hA
          rw [hA] at HFi ⊢
          have HOK := Lib.hid hok
          clear hn hf hbig hth hok hA hsm 
          go_enter Try.func11, Try.ntmps11
          go_wp2_with fail
          refine (may_walk s _ hs).mono ?_
          rw [HN.out]
          rintro e w' ⟨rfl, rfl⟩
          go_wp2_with (first | (at_lookup; refine step_look rfl _ _ rfl b d.m rfl HI.out.own s rfl hs ?_; rw [HT.out, HF.out]; simp only [fileV]))
          refine (chg_walk _ g b d HI1.out).mono ?_
          rw [HOK.out]
          rintro e W2 ⟨rfl, hI2, hF2⟩
          have H62 := Lib.hid (H6.out.fr hF2 (H6.out.not_two HI1.out))
          have HI2 := Lib.hid hI2
          have HF2 := Lib.hid (HFr.out.trans hF2)
          clear hI2 hF2 c0 hc1
          go_wp2
          go_ret
          exact ⟨rfl, HI2.out, HF2.out⟩
        | true =>
          rw [hok, if_neg (by decide)] at hA
          rw [hA] at HFi ⊢
          have HOK := Lib.hid hok
          have HC := Lib.hid (chg_m d)
          clear hn hf hbig hth hok hA hsm 
          go_enter Try.func11, Try.ntmps11
          go_wp2_with fail
          refine (may_walk s _ hs).mono ?_
          rw [HN.out]
          rintro e w' ⟨rfl, rfl⟩
          go_wp2_with (first | (at_lookup; refine step_look rfl _ _ rfl b d.m rfl HI.out.own s rfl hs ?_; rw [HT.out, HF.out]; simp only [fileV]))
          refine (chg_walk _ g b d HI1.out).mono ?_
          rw [HOK.out]
          rintro e W2 ⟨rfl, hI2, hF2⟩
          have H62 := Lib.hid (H6.out.fr hF2 (H6.out.not_two HI1.out))
          have HI2 := Lib.hid hI2
          have HF2 := Lib.hid (HFr.out.trans hF2)
          clear hI2 hF2 c0 hc1
          obtain ⟨k6, hk6⟩ : ∃ k, W.heap.size = k := ⟨_, rfl⟩
          have h62 := H62.out
          rw [hk6] at h62
          have hge := Nat.le_of_eq hk6
          have hn6 := h62.not_two HI2.out
          rw [hk6]
          obtain ⟨c60, c61, f60, f61⟩ := h62.cells
          have HP := Lib.hid (show FlAt (W2.setCell ⟨k6, 0, none⟩ (.string (fh ++ t))) k6 ⟨fh ++ t, fs⟩ from blk_put h62 0 _ rfl)
          have HI3 := Lib.hid (HI2.out.setFar hn6 0 (.string (fh ++ t)))
          have HF3 := Lib.hid (HF2.out.set (p := ⟨k6, 0, none⟩) (.inr hge) (.string (fh ++ t)))
          clear h62 hn6 hk6
          go_wp2_with fail
          generalize W2.setCell ⟨k6, 0, none⟩ (.string (fh ++ t)) = W3 at *
          have hI3 := HI3.out
          have h63 := HP.out
          have c0 : ({ W3 with drawn := W3.drawn + 1 } : World).cell? ⟨g, 0, none⟩ = some (.map (some b)) := (blk_cell hI3.blk 0).trans rfl
          have d60 : ({ W3 with drawn := W3.drawn + 1 } : World).cell? ⟨k6, 0, none⟩ = some (.string (fh ++ t)) := h63.cells.1
          have d61 : ({ W3 with drawn := W3.drawn + 1 } : World).cell? ⟨k6, 1, none⟩ = some (.int .i64 fs) := h63.cells.2.1
          have HI5 := Lib.hid (hI3.move rfl rfl : IsDk { W3 with drawn := W3.drawn + 1 } g b d.chg)
          have HF5 := Lib.hid (show Fr (Two g b) W { W3 with drawn := W3.drawn + 1 } from HF3.out.drew)
          clear hI3 h63 c60 c61 f60 f61
          refine wp_region_still_tail 6 (by kernel_rfl) (by kernel_rfl) ?_
          simp only [List.take_succ_cons, List.take_zero, List.drop_succ_cons, List.drop_zero]
          generalize ({ W3 with drawn := W3.drawn + 1 } : World) = W5 at *
          repeat still_step
          refine wpStill_nil ?_
          refine step_put rfl _ _ _ rfl b d.chg.m rfl HI5.out.own (Nat.le_trans HI5.out.fine.many (by decide)) s ⟨fh ++ t, fs⟩ rfl rfl hs ?_
          intro W6 ho hg
          rw [HC.out] at ho
          have HT6 := Lib.hid (HI5.out.turn ho hg HFi.out)
          have HF6 := Lib.hid (HF5.out.trans HT6.out.2)
          clear ho hg c0 d60 d61
          go_wp2
          go_ret
          exact ⟨rfl, HT6.out.1, HF6.out⟩
end Go.Proofs.Ytjkllbilfcopmaa.Dk
