import Derived.Test.YtjkllbilfcopmaaDk9
namespace Go.Proofs.Ytjkllbilfcopmaa.Dk
open Go.RowKit Go.Proofs.YtjkllbilfcopmaaW.PrintWords Go.Proofs.YtjkllbilfcopmaaW.PrintLast Go.Proofs.YtjkllbilfcopmaaW.PrintMore
set_option linter.unusedVariables false
set_option linter.unusedSimpArgs false
abbrev IntsAt := RowAt (Value.int .i64) (0 : Int)
abbrev StrsAt := RowAt Value.string ByteArray.empty
set_option maxRecDepth 100000 in
set_option maxHeartbeats 8000000 in
theorem crash_walk (W : World) (g b : Nat) (d : DS) (h : IsDk W g b d) (A : Option Addr) (dr : List Int) (c : Nat) (hA : IntsAt (Two g b) W A dr) (hc : dr.length ≤ c) (hcm : c ≤ maxLen) (hdr : ∀ x ∈ dr, -9223372036854775808 ≤ x ∧ x ≤ 9223372036854775807) :
    Calls Try.prog 13 #[.pointer (some ⟨g, 0, none⟩), .slice A dr.length c] W fun e W' => e = .returned (.int .i64 (crash d dr).2) ∧ IsDk W' g b (crash d dr).1 ∧ Fr (Two g b) W W' := by
  unfold maxLen at hcm
  have HI := Lib.hid h
  have HFi := Lib.hid (crash_fine h.fine dr)
  have HA := Lib.hid hA
  have HDR := Lib.hid hdr
  by_cases hbig : 4096 < dr.length
  · have hS : crash d dr = (d, 2) := by unfold crash; rw [if_pos hbig]
    rw [hS]
    have hb' : (4096 : Int) < (dr.length : Int) := by omega
    clear h hA hS hbig HFi hdr
    go_enter Try.func13, Try.ntmps13
    go_wp2
    go_ret
    exact ⟨rfl, HI.out, Fr.refl _ _⟩
  · have hS : crash d dr = (⟨crashL (FM.names d.m) dr d.m, false, false, 0⟩, 0) := by unfold crash; rw [if_neg hbig]
    rw [hS] at HFi ⊢
    have hb' : (dr.length : Int) ≤ 4096 := by omega
    obtain ⟨m0, hm0⟩ : ∃ m0, crashL (FM.names d.m) dr d.m = m0 := ⟨_, rfl⟩
    rw [hm0] at HFi ⊢
    have HM0 := Lib.hid hm0
    have c1 := (blk_cell h.blk 1).trans (show _ = some (Value.bool d.fused) from rfl)
    have c2 := (blk_cell h.blk 2).trans (show _ = some (Value.bool d.down) from rfl)
    have c3 := (blk_cell h.blk 3).trans (show _ = some (Value.int .i64 d.left) from rfl)
    have f1 := blk_frozen h.blk 1
    have f2 := blk_frozen h.blk 2
    have f3 := blk_frozen h.blk 3
    have hI1 : IsDk (((W.setCell ⟨g, 1, none⟩ (.bool false)).setCell ⟨g, 2, none⟩ (.bool false)).setCell ⟨g, 3, none⟩ (.int .i64 0)) g b ⟨d.m, false, false, 0⟩ := by
      refine ⟨blk_put (blk_put (blk_put h.blk 1 _ rfl) 2 _ rfl) 3 _ rfl, own_move h.own ?_, ⟨h.fine.fls, h.fine.many, Int.le_refl _, by show (0 : Int) ≤ _; decide⟩⟩
      rw [Below.heap_setCell _ ⟨g, 3, none⟩ _ b (fun e => h.ne e.symm), Below.heap_setCell _ ⟨g, 2, none⟩ _ b (fun e => h.ne e.symm), Below.heap_setCell _ ⟨g, 1, none⟩ _ b (fun e => h.ne e.symm)]
    have hF1 : Fr (Two g b) W (((W.setCell ⟨g, 1, none⟩ (.bool false)).setCell ⟨g, 2, none⟩ (.bool false)).setCell ⟨g, 3, none⟩ (.int .i64 0)) := (((Fr.refl _ _).set (.inl (.inl rfl)) _).set (.inl (.inl rfl)) _).set (.inl (.inl rfl)) _
    have HI1 := Lib.hid hI1
    have HF1 := Lib.hid hF1
    clear h hA hS hbig hm0 hI1 hF1 hdr
    go_enter Try.func13, Try.ntmps13
    go_wp2_with fail
    generalize ((W.setCell ⟨g, 1, none⟩ (.bool false)).setCell ⟨g, 2, none⟩ (.bool false)).setCell ⟨g, 3, none⟩ (.int .i64 0) = W1 at *
    refine (names_walk W1 g b _ HI1.out).mono ?_
    rintro e W2 ⟨v, rfl, hrow, hB2⟩
    obtain ⟨L, hL⟩ : ∃ L, nameL ⟨d.m, false, false, 0⟩ = L := ⟨_, rfl⟩
    rw [hL] at hrow
    have hg1 := HI1.out.lt
    obtain ⟨A2, k2, rfl, hN, hk2, hkm⟩ := own_row (S := Two g b) hrow (fun k hk e => by rcases e with e | e <;> omega)
    have hLl : L.length ≤ 64 := by rw [← hL]; unfold nameL; rw [List.length_map, FM.names_len]; exact HI1.out.fine.many
    have HL := Lib.hid hL
    have HN := Lib.hid hN
    have HI2 := Lib.hid (HI1.out.below hB2)
    have HF2 := Lib.hid (HF1.out.trans (Fr.of_below hB2))
    have HA2 := Lib.hid (HA.out.fr HF2.out)
    clear hrow hN hL hB2 hg1 HI1 HF1 c1 c2 c3 f1 f2 f3 hkm
    go_wp2_with fail
    have hkey : ∀ j, j < L.length → ∃ s, L.getD j ByteArray.empty = s ∧ s.size ≤ maxLen ∧ ∀ dr m, crashL ((FM.names d.m).drop j) dr m = crashL (s.data.toList :: (FM.names d.m).drop (j + 1)) dr m := fun j hj => by
      have hl : j < (FM.names d.m).length := by
        have := hj
        rw [← HL.out] at this
        unfold nameL at this
        rwa [List.length_map] at this
      have e : L.getD j ByteArray.empty = ⟨((FM.names d.m)[j]).toArray⟩ := by
        rw [← HL.out]; unfold nameL
        simp [List.getD_eq_getElem?_getD, hl]
      refine ⟨_, e, ?_, fun dr m => ?_⟩
      · obtain ⟨v, hv⟩ := FM.mem_names.1 (List.getElem_mem hl)
        have := (HI.out.fine.fls _ hv).2.2.2
        show ((FM.names d.m)[j]).toArray.size ≤ _
        unfold maxLen
        simp only [List.size_toArray]
        simp only at this
        omega
      · rw [List.drop_eq_getElem_cons hl]
    have HKEY := Lib.hid hkey
    have hstart : crashL ((FM.names d.m).drop 0) dr d.m = m0 := HM0.out
    have HST := Lib.hid hstart
    clear hkey hstart
    go_loopg [1, 25] (L.length + 1) (fun kq v1 v25 w' => ∃ (j : Nat) (A3 : Option Addr) (dr3 : List Int) (c3 : Nat) (m3 : Fs), v1 = .slice A3 dr3.length c3 ∧ v25 = .int .i64 (j : Int) ∧ Hid (j + kq = L.length + 1 ∧ j ≤ L.length ∧ dr3.length ≤ c3 ∧ c3 ≤ 9223372036854775807 ∧ dr3.length ≤ 4096) ∧ Hid (crashL ((FM.names d.m).drop j) dr3 m3 = m0) ∧ Hid (IsDk w' g b ⟨m3, false, false, 0⟩) ∧ Hid (Fr (Two g b) W w') ∧ Hid (IntsAt (Two g b) w' A3 dr3) ∧ Hid (StrsAt (Two g b) w' A2 L) ∧ Hid (∀ x ∈ dr3, -9223372036854775808 ≤ x ∧ x ≤ 9223372036854775807))
    case atStart => exact ⟨0, A, dr, c, d.m, rfl, rfl, Lib.hid ⟨by omega, Nat.zero_le _, hc, by omega, by omega⟩, HST, HI2, HF2, HA2, HN, HDR⟩
    case round =>
      clear HST HI2 HF2 HA2 HN HDR HA hc hb'
      obtain ⟨j, A3, dr3, c3, m3, rfl, rfl, HQ, HM, HD3, HF3, HA3, HN3, HR3⟩ := hrel
      obtain ⟨q1, q2, q3, q4, q5⟩ := HQ.out
      by_cases hj : j < L.length
      · obtain ⟨kq1, rfl⟩ : ∃ kq1, gk = kq1 + 1 := ⟨gk - 1, by omega⟩
        obtain ⟨s, hs0, hsz, hcr⟩ := HKEY.out j hj
        obtain ⟨ad2, rfl, hcell⟩ := HN3.out.at_ j hj
        rw [hs0] at hcell
        have hM := HM.out
        rw [hcr, crashL_cons] at hM
        have hji : (j : Int) < (L.length : Int) := by omega
        have c0 := (blk_cell HD3.out.blk 0).trans (show _ = some (Value.map (some b)) from rfl)
        have hff := HD3.out.fine.file s
        obtain ⟨⟨fh, fs⟩, hf⟩ : ∃ f, (FM.get m3 s.data.toList).getD z0 = f := ⟨_, rfl⟩
        have hf' : file ⟨m3, false, false, 0⟩ s = ⟨fh, fs⟩ := hf
        rw [hf'] at hff
        obtain ⟨b1, b2, b3⟩ := hff
        have b1' : 0 ≤ fs := b1
        have b2' : fs ≤ (fh.size : Int) := b2
        have b3' : fh.size ≤ 262144 := b3
        rw [hf] at hM
        have HFile := Lib.hid hf
        clear hf hf' hs0 hcr b1 b2 b3
        have HFal := Lib.hid (HF3.out.alloc (.cells #[.string fh, .int .i64 fs] 56))
        have HDal := Lib.hid (HD3.out.below (below_alloc (Below.refl _ _) (.cells #[.string fh, .int .i64 fs] 56)))
        have HAal := Lib.hid (HA3.out.fr ((Fr.refl (Two g b) wr).alloc (.cells #[.string fh, .int .i64 fs] 56)))
        have HNal := Lib.hid (HN3.out.fr ((Fr.refl (Two g b) wr).alloc (.cells #[.string fh, .int .i64 fs] 56)))
        by_cases htl : (fh.size : Int) - fs = 0
        · have htb : ((fh.size : Int) - fs == 0) = true := by simpa using htl
          have htl' : (fh.size : Int) = fs := by omega
          rw [if_pos (show tail ⟨fh, fs⟩ = 0 from htl)] at hM
          have HM' := Lib.hid hM
          clear hM htl htl'
          go_wp2_with (first | (at_lookup; refine step_look1 rfl _ _ rfl b m3 rfl HD3.out.own s rfl hsz ?_; rw [HFile.out]; simp only [fileV]))
          go_roundg kq1
          case measure => omega
          case rel => exact ⟨j + 1, A3, dr3, c3, m3, rfl, by go_num, Lib.hid ⟨by omega, by omega, q3, q4, q5⟩, HM', HDal, HFal, HAal, HNal, HR3⟩
        · have htb : ((fh.size : Int) - fs == 0) = false := by simpa using htl
          have ht1 : 0 < (fh.size : Int) - fs := by omega
          rw [if_neg (show ¬ tail ⟨fh, fs⟩ = 0 from htl)] at hM
          have HM' := Lib.hid hM
          have hfl : FlAt (wr.alloc (.cells #[.string fh, .int .i64 fs] 56)) wr.heap.size ⟨fh, fs⟩ := heap_alloc_new wr _
          clear hM htl
          match dr3 with
          | [] =>
            go_wp2_with (first | (at_lookup; refine step_look1 rfl _ _ rfl b m3 rfl HD3.out.own s rfl hsz ?_; rw [HFile.out]; simp only [fileV]))
            have hr1 := Int.emod_nonneg (0) (show (fh.size : Int) - fs + 1 ≠ 0 by omega)
            have hr2 := Int.emod_lt_of_pos (0) (show 0 < (fh.size : Int) - fs + 1 by omega)
            obtain ⟨kf, hkf⟩ : ∃ kf, wr.heap.size = kf := ⟨_, rfl⟩
            rw [hkf] at hfl
            obtain ⟨c70, c71, f70, f71⟩ := hfl.cells
            have hnk := hfl.not_two HDal.out
            have HK := Lib.hid (And.intro hnk (And.intro hfl (And.intro (show W.heap.size ≤ kf by have := HF3.out.size; omega) (Nat.le_of_eq hkf))))
            have HWa := Lib.hid ((Fr.refl (Two g b) wr).alloc (.cells #[.string fh, .int .i64 fs] 56))
            have hz1 : IntKind.i64.wrap ((fh.size : Int) - fs + 1) = (fh.size : Int) - fs + 1 := by rw [IntKind.wrap_i64]; omega
            have hz2 : ¬ ((fh.size : Int) - fs + 1 = 0) := by omega
            have hz3 : Int.tmod (0) ((fh.size : Int) - fs + 1) = (0) % ((fh.size : Int) - fs + 1) := Int.tmod_eq_emod_of_nonneg (by omega)
            obtain ⟨nn, hnn⟩ : ∃ nn : Nat, fs = (nn : Int) := ⟨(fs).toNat, by omega⟩
            have hz4 : IntKind.i64.wrap (fs) = fs := by rw [IntKind.wrap_i64]; omega
            have hnb : (nn : Int) ≤ (fh.size : Int) := by omega
            have HNN := Lib.hid hnn
            rw [hkf]
            clear hkf hnk hfl hcell c0 HD3 HF3 hnn HAal HNal
            generalize (wr.alloc (.cells #[.string fh, .int .i64 fs] 56)) = Wa at *
            have d71 : ({ Wa with drawn := (Wa).drawn + 1 } : World).cell? ⟨kf, 1, none⟩ = some (.int .i64 fs) := c71
            have g71 : ({ Wa with drawn := (Wa).drawn + 1 } : World).frozen? ⟨kf, 1, none⟩ = false := f71
            have HW := Lib.hid (show ∃ n, ({ Wa with drawn := (Wa).drawn + 1 } : World) = Wa.drewN n from ⟨1, rfl⟩)
            clear c70 c71 f70 f71
            refine wp_region_still_tail 8 (by kernel_rfl) (by kernel_rfl) ?_
            simp only [List.take_succ_cons, List.take_zero, List.drop_succ_cons, List.drop_zero]
            generalize ({ Wa with drawn := (Wa).drawn + 1 } : World) = Wb at *
            repeat still_step
            refine wpStill_nil ?_
            go_wp2_with fail
            clear hr1 hr2 hz1 hz2 hz3 hz4 d71 g71
            rw [HNN.out]
            have hWb : Fr (Two g b) Wa Wb := by obtain ⟨n, e⟩ := HW.out; rw [e]; exact (Fr.refl _ _).drewN n
            have hflb : FlAt Wb kf ⟨fh, fs⟩ := HK.out.2.1.fr hWb HK.out.1
            have hDb : IsDk Wb g b ⟨m3, false, false, 0⟩ := by obtain ⟨n, e⟩ := HW.out; rw [e]; exact HDal.out.below (pw_below_drewN (Below.refl _ _) n)
            have hflc : FlAt (Wb.setCell ⟨kf, 1, none⟩ (.int .i64 nn)) kf ⟨fh, nn⟩ := blk_put hflb 1 _ rfl
            have hDc := hDb.setFar HK.out.1 1 (.int .i64 nn)
            have hFc : Fr (Two g b) W (Wb.setCell ⟨kf, 1, none⟩ (.int .i64 nn)) := (HFal.out.trans hWb).set (.inr HK.out.2.2.1) _
            have hFr : Fr (Two g b) wr (Wb.setCell ⟨kf, 1, none⟩ (.int .i64 nn)) := (HWa.out.trans hWb).set (.inr HK.out.2.2.2) _
            generalize (Wb.setCell ⟨kf, 1, none⟩ (.int .i64 nn)) = Wc at *
            have c0 : ({ Wc with drawn := Wc.drawn + 1 } : World).cell? ⟨g, 0, none⟩ = some (.map (some b)) := (blk_cell hDc.blk 0).trans rfl
            have d70 : ({ Wc with drawn := Wc.drawn + 1 } : World).cell? ⟨kf, 0, none⟩ = some (.string fh) := hflc.cells.1
            have d71 : ({ Wc with drawn := Wc.drawn + 1 } : World).cell? ⟨kf, 1, none⟩ = some (.int .i64 nn) := hflc.cells.2.1
            have HDd := Lib.hid (hDc.move rfl rfl : IsDk { Wc with drawn := Wc.drawn + 1 } g b ⟨m3, false, false, 0⟩)
            have HFd := Lib.hid (show Fr (Two g b) W { Wc with drawn := Wc.drawn + 1 } from hFc.drew)
            have HFr := Lib.hid (show Fr (Two g b) wr { Wc with drawn := Wc.drawn + 1 } from hFr.drew)
            have hn0 : (0 : Int) ≤ (nn : Int) := by omega
            have hnb2 : nn ≤ fh.size := by omega
            clear hWb hflb hDb hflc hDc hFc hFr
            refine wp_region_still_tail 13 (by kernel_rfl) (by kernel_rfl) ?_
            simp only [List.take_succ_cons, List.take_zero, List.drop_succ_cons, List.drop_zero]
            generalize ({ Wc with drawn := Wc.drawn + 1 } : World) = Wd at *
            repeat still_step
            refine wpStill_nil ?_
            refine step_put rfl _ _ _ rfl b m3 rfl HDd.out.own (Nat.le_trans HDd.out.fine.many (by decide)) s ⟨fh.extract 0 nn, nn⟩ rfl rfl hsz ?_
            intro We ho hg
            have htorn : torn ⟨fh, fs⟩ (0) = ⟨fh.extract 0 nn, nn⟩ := by
              have e : fs + (max 0 (0)) % (tail ⟨fh, fs⟩ + 1) = (nn : Int) := by
                rw [← HNN.out]
                simp
              unfold torn
              rw [e, Int.toNat_natCast]
            have hput : crashL ((FM.names d.m).drop (j + 1)) ([]) (FM.put m3 s.data.toList ⟨fh.extract 0 nn, nn⟩) = m0 := by
              have h1 := HM'.out
              rw [← htorn]
              exact h1
            have hfin : AllFine (FM.put m3 s.data.toList ⟨fh.extract 0 nn, nn⟩) := by
              have h1 := torn_fine (m := m3) ⟨HDd.out.fine.fls, HDd.out.fine.many⟩ (n := s.data.toList) (by rw [HFile.out]; show ¬ (fh.size : Int) - fs = 0; omega) (0)
              rw [HFile.out, htorn] at h1
              exact h1
            have HT := Lib.hid (HDd.out.turn ho hg ⟨hfin.1, hfin.2, Int.le_refl _, by show (0 : Int) ≤ _; decide⟩)
            have HFe := Lib.hid (HFd.out.trans HT.out.2)
            have HFre := Lib.hid (HFr.out.trans HT.out.2)
            have HP := Lib.hid hput
            clear ho hg c0 d70 d71 hput hfin htorn
            go_wp2_with fail
            go_roundg kq1
            case measure => omega
            case rel => exact ⟨j + 1, A3, [], c3, _, rfl, by go_num, Lib.hid ⟨by omega, by omega, q3, q4, q5⟩, HP, HT.out.1, HFe, Lib.hid (HA3.out.fr HFre.out), Lib.hid (HN3.out.fr HFre.out), HR3⟩
          | x :: r =>
            obtain ⟨x1, x2⟩ := HR3.out x (by simp)
            obtain ⟨ad3, rfl, hcx0⟩ := HA3.out.at_ 0 (by simp)
            obtain ⟨ad3', e3, hcx1⟩ := HAal.out.at_ 0 (by simp)
            obtain rfl := Option.some.inj e3
            have hcx : (wr.alloc (.cells #[.string fh, .int .i64 fs] 56)).cell? ad3 = some (.int .i64 x) := by simpa [Addr.add] using hcx1
            clear hcx0 hcx1 e3
            obtain ⟨y, hy⟩ : ∃ y, max 0 x = y := ⟨_, rfl⟩
            have hy0 : 0 ≤ y := by omega
            have hy1 : y ≤ 9223372036854775807 := by omega
            have HY := Lib.hid hy
            clear hy
            by_cases hc31 : c3 = 1
            · have hr0 : r = [] := by
                have : r.length + 1 ≤ c3 := q3
                exact List.eq_nil_of_length_eq_zero (by omega)
              subst hr0
              subst hc31
              have HATail : ∀ W', Fr (Two g b) wr W' → IntsAt (Two g b) W' (some ad3) [] := fun W' _ => ⟨by simp, fun h => absurd h (by simp)⟩
              have HAT := Lib.hid HATail
              clear HATail
              go_wp2_with (first | (at_lookup; refine step_look1 rfl _ _ rfl b m3 rfl HD3.out.own s rfl hsz ?_; rw [HFile.out]; simp only [fileV]))
              have hr1 := Int.emod_nonneg (y) (show (fh.size : Int) - fs + 1 ≠ 0 by omega)
              have hr2 := Int.emod_lt_of_pos (y) (show 0 < (fh.size : Int) - fs + 1 by omega)
              obtain ⟨kf, hkf⟩ : ∃ kf, wr.heap.size = kf := ⟨_, rfl⟩
              rw [hkf] at hfl
              obtain ⟨c70, c71, f70, f71⟩ := hfl.cells
              have hnk := hfl.not_two HDal.out
              have HK := Lib.hid (And.intro hnk (And.intro hfl (And.intro (show W.heap.size ≤ kf by have := HF3.out.size; omega) (Nat.le_of_eq hkf))))
              have HWa := Lib.hid ((Fr.refl (Two g b) wr).alloc (.cells #[.string fh, .int .i64 fs] 56))
              have hz1 : IntKind.i64.wrap ((fh.size : Int) - fs + 1) = (fh.size : Int) - fs + 1 := by rw [IntKind.wrap_i64]; omega
              have hz2 : ¬ ((fh.size : Int) - fs + 1 = 0) := by omega
              have hz3 : Int.tmod (y) ((fh.size : Int) - fs + 1) = (y) % ((fh.size : Int) - fs + 1) := Int.tmod_eq_emod_of_nonneg (by omega)
              obtain ⟨nn, hnn⟩ : ∃ nn : Nat, fs + y % ((fh.size : Int) - fs + 1) = (nn : Int) := ⟨(fs + y % ((fh.size : Int) - fs + 1)).toNat, by omega⟩
              have hz4 : IntKind.i64.wrap (fs + y % ((fh.size : Int) - fs + 1)) = fs + y % ((fh.size : Int) - fs + 1) := by rw [IntKind.wrap_i64]; omega
              have hnb : (nn : Int) ≤ (fh.size : Int) := by omega
              have HNN := Lib.hid hnn
              rw [hkf]
              clear hkf hnk hfl hcell c0 HD3 HF3 hnn HAal HNal
              generalize (wr.alloc (.cells #[.string fh, .int .i64 fs] 56)) = Wa at *
              go_quiet (fail)
              go_wp2_with fail
              rw [HY.out]
              have d71 : ({ (Wa.drewN nq) with drawn := ((Wa.drewN nq)).drawn + 1 } : World).cell? ⟨kf, 1, none⟩ = some (.int .i64 fs) := c71
              have g71 : ({ (Wa.drewN nq) with drawn := ((Wa.drewN nq)).drawn + 1 } : World).frozen? ⟨kf, 1, none⟩ = false := f71
              have HW := Lib.hid (show ∃ n, ({ (Wa.drewN nq) with drawn := ((Wa.drewN nq)).drawn + 1 } : World) = Wa.drewN n from ⟨nq + 1, rfl⟩)
              clear c70 c71 f70 f71
              refine wp_region_still_tail 8 (by kernel_rfl) (by kernel_rfl) ?_
              simp only [List.take_succ_cons, List.take_zero, List.drop_succ_cons, List.drop_zero]
              generalize ({ (Wa.drewN nq) with drawn := ((Wa.drewN nq)).drawn + 1 } : World) = Wb at *
              repeat still_step
              refine wpStill_nil ?_
              go_wp2_with fail
              clear hr1 hr2 hz1 hz2 hz3 hz4 d71 g71
              rw [HNN.out]
              have hWb : Fr (Two g b) Wa Wb := by obtain ⟨n, e⟩ := HW.out; rw [e]; exact (Fr.refl _ _).drewN n
              have hflb : FlAt Wb kf ⟨fh, fs⟩ := HK.out.2.1.fr hWb HK.out.1
              have hDb : IsDk Wb g b ⟨m3, false, false, 0⟩ := by obtain ⟨n, e⟩ := HW.out; rw [e]; exact HDal.out.below (pw_below_drewN (Below.refl _ _) n)
              have hflc : FlAt (Wb.setCell ⟨kf, 1, none⟩ (.int .i64 nn)) kf ⟨fh, nn⟩ := blk_put hflb 1 _ rfl
              have hDc := hDb.setFar HK.out.1 1 (.int .i64 nn)
              have hFc : Fr (Two g b) W (Wb.setCell ⟨kf, 1, none⟩ (.int .i64 nn)) := (HFal.out.trans hWb).set (.inr HK.out.2.2.1) _
              have hFr : Fr (Two g b) wr (Wb.setCell ⟨kf, 1, none⟩ (.int .i64 nn)) := (HWa.out.trans hWb).set (.inr HK.out.2.2.2) _
              generalize (Wb.setCell ⟨kf, 1, none⟩ (.int .i64 nn)) = Wc at *
              have c0 : ({ Wc with drawn := Wc.drawn + 1 } : World).cell? ⟨g, 0, none⟩ = some (.map (some b)) := (blk_cell hDc.blk 0).trans rfl
              have d70 : ({ Wc with drawn := Wc.drawn + 1 } : World).cell? ⟨kf, 0, none⟩ = some (.string fh) := hflc.cells.1
              have d71 : ({ Wc with drawn := Wc.drawn + 1 } : World).cell? ⟨kf, 1, none⟩ = some (.int .i64 nn) := hflc.cells.2.1
              have HDd := Lib.hid (hDc.move rfl rfl : IsDk { Wc with drawn := Wc.drawn + 1 } g b ⟨m3, false, false, 0⟩)
              have HFd := Lib.hid (show Fr (Two g b) W { Wc with drawn := Wc.drawn + 1 } from hFc.drew)
              have HFr := Lib.hid (show Fr (Two g b) wr { Wc with drawn := Wc.drawn + 1 } from hFr.drew)
              have hn0 : (0 : Int) ≤ (nn : Int) := by omega
              have hnb2 : nn ≤ fh.size := by omega
              clear hWb hflb hDb hflc hDc hFc hFr
              refine wp_region_still_tail 13 (by kernel_rfl) (by kernel_rfl) ?_
              simp only [List.take_succ_cons, List.take_zero, List.drop_succ_cons, List.drop_zero]
              generalize ({ Wc with drawn := Wc.drawn + 1 } : World) = Wd at *
              repeat still_step
              refine wpStill_nil ?_
              refine step_put rfl _ _ _ rfl b m3 rfl HDd.out.own (Nat.le_trans HDd.out.fine.many (by decide)) s ⟨fh.extract 0 nn, nn⟩ rfl rfl hsz ?_
              intro We ho hg
              have htorn : torn ⟨fh, fs⟩ (x) = ⟨fh.extract 0 nn, nn⟩ := by
                have e : fs + (max 0 (x)) % (tail ⟨fh, fs⟩ + 1) = (nn : Int) := by
                  rw [← HNN.out]
                  show fs + (max 0 x) % ((fh.size : Int) - fs + 1) = _
                  rw [HY.out]
                unfold torn
                rw [e, Int.toNat_natCast]
              have hput : crashL ((FM.names d.m).drop (j + 1)) ([]) (FM.put m3 s.data.toList ⟨fh.extract 0 nn, nn⟩) = m0 := by
                have h1 := HM'.out
                rw [← htorn]
                exact h1
              have hfin : AllFine (FM.put m3 s.data.toList ⟨fh.extract 0 nn, nn⟩) := by
                have h1 := torn_fine (m := m3) ⟨HDd.out.fine.fls, HDd.out.fine.many⟩ (n := s.data.toList) (by rw [HFile.out]; show ¬ (fh.size : Int) - fs = 0; omega) (x)
                rw [HFile.out, htorn] at h1
                exact h1
              have HT := Lib.hid (HDd.out.turn ho hg ⟨hfin.1, hfin.2, Int.le_refl _, by show (0 : Int) ≤ _; decide⟩)
              have HFe := Lib.hid (HFd.out.trans HT.out.2)
              have HFre := Lib.hid (HFr.out.trans HT.out.2)
              have HP := Lib.hid hput
              clear ho hg c0 d70 d71 hput hfin htorn
              go_wp2_with fail
              go_roundg kq1
              case measure => omega
              case rel => exact ⟨j + 1, some ad3, [], 0, _, rfl, by go_num, Lib.hid ⟨by omega, by omega, by have : ([] : List Int).length + 1 ≤ _ := q3; omega, by omega, by have : ([] : List Int).length + 1 ≤ 4096 := q5; omega⟩, HP, HT.out.1, HFe, Lib.hid (HAT.out _ HFre.out), Lib.hid (HN3.out.fr HFre.out), Lib.hid (fun z hz => HR3.out z (by simp [hz]))⟩
            · have hge : 1 ≤ c3 := by have : r.length + 1 ≤ c3 := q3; omega
              have HATail : ∀ W', Fr (Two g b) wr W' → IntsAt (Two g b) W' (some (ad3.add 1)) r := fun W' hf => RowAt.tail (HA3.out.fr hf) (fun _ => rfl)
              have HAT := Lib.hid HATail
              clear HATail
              go_wp2_with (first | (at_lookup; refine step_look1 rfl _ _ rfl b m3 rfl HD3.out.own s rfl hsz ?_; rw [HFile.out]; simp only [fileV]))
              have hr1 := Int.emod_nonneg (y) (show (fh.size : Int) - fs + 1 ≠ 0 by omega)
              have hr2 := Int.emod_lt_of_pos (y) (show 0 < (fh.size : Int) - fs + 1 by omega)
              obtain ⟨kf, hkf⟩ : ∃ kf, wr.heap.size = kf := ⟨_, rfl⟩
              rw [hkf] at hfl
              obtain ⟨c70, c71, f70, f71⟩ := hfl.cells
              have hnk := hfl.not_two HDal.out
              have HK := Lib.hid (And.intro hnk (And.intro hfl (And.intro (show W.heap.size ≤ kf by have := HF3.out.size; omega) (Nat.le_of_eq hkf))))
              have HWa := Lib.hid ((Fr.refl (Two g b) wr).alloc (.cells #[.string fh, .int .i64 fs] 56))
              have hz1 : IntKind.i64.wrap ((fh.size : Int) - fs + 1) = (fh.size : Int) - fs + 1 := by rw [IntKind.wrap_i64]; omega
              have hz2 : ¬ ((fh.size : Int) - fs + 1 = 0) := by omega
              have hz3 : Int.tmod (y) ((fh.size : Int) - fs + 1) = (y) % ((fh.size : Int) - fs + 1) := Int.tmod_eq_emod_of_nonneg (by omega)
              obtain ⟨nn, hnn⟩ : ∃ nn : Nat, fs + y % ((fh.size : Int) - fs + 1) = (nn : Int) := ⟨(fs + y % ((fh.size : Int) - fs + 1)).toNat, by omega⟩
              have hz4 : IntKind.i64.wrap (fs + y % ((fh.size : Int) - fs + 1)) = fs + y % ((fh.size : Int) - fs + 1) := by rw [IntKind.wrap_i64]; omega
              have hnb : (nn : Int) ≤ (fh.size : Int) := by omega
              have HNN := Lib.hid hnn
              rw [hkf]
              clear hkf hnk hfl hcell c0 HD3 HF3 hnn HAal HNal
              generalize (wr.alloc (.cells #[.string fh, .int .i64 fs] 56)) = Wa at *
              go_quiet (fail)
              go_wp2_with fail
              rw [HY.out]
              have d71 : ({ (Wa.drewN nq) with drawn := ((Wa.drewN nq)).drawn + 1 } : World).cell? ⟨kf, 1, none⟩ = some (.int .i64 fs) := c71
              have g71 : ({ (Wa.drewN nq) with drawn := ((Wa.drewN nq)).drawn + 1 } : World).frozen? ⟨kf, 1, none⟩ = false := f71
              have HW := Lib.hid (show ∃ n, ({ (Wa.drewN nq) with drawn := ((Wa.drewN nq)).drawn + 1 } : World) = Wa.drewN n from ⟨nq + 1, rfl⟩)
              clear c70 c71 f70 f71
              refine wp_region_still_tail 8 (by kernel_rfl) (by kernel_rfl) ?_
              simp only [List.take_succ_cons, List.take_zero, List.drop_succ_cons, List.drop_zero]
              generalize ({ (Wa.drewN nq) with drawn := ((Wa.drewN nq)).drawn + 1 } : World) = Wb at *
              repeat still_step
              refine wpStill_nil ?_
              go_wp2_with fail
              clear hr1 hr2 hz1 hz2 hz3 hz4 d71 g71
              rw [HNN.out]
              have hWb : Fr (Two g b) Wa Wb := by obtain ⟨n, e⟩ := HW.out; rw [e]; exact (Fr.refl _ _).drewN n
              have hflb : FlAt Wb kf ⟨fh, fs⟩ := HK.out.2.1.fr hWb HK.out.1
              have hDb : IsDk Wb g b ⟨m3, false, false, 0⟩ := by obtain ⟨n, e⟩ := HW.out; rw [e]; exact HDal.out.below (pw_below_drewN (Below.refl _ _) n)
              have hflc : FlAt (Wb.setCell ⟨kf, 1, none⟩ (.int .i64 nn)) kf ⟨fh, nn⟩ := blk_put hflb 1 _ rfl
              have hDc := hDb.setFar HK.out.1 1 (.int .i64 nn)
              have hFc : Fr (Two g b) W (Wb.setCell ⟨kf, 1, none⟩ (.int .i64 nn)) := (HFal.out.trans hWb).set (.inr HK.out.2.2.1) _
              have hFr : Fr (Two g b) wr (Wb.setCell ⟨kf, 1, none⟩ (.int .i64 nn)) := (HWa.out.trans hWb).set (.inr HK.out.2.2.2) _
              generalize (Wb.setCell ⟨kf, 1, none⟩ (.int .i64 nn)) = Wc at *
              have c0 : ({ Wc with drawn := Wc.drawn + 1 } : World).cell? ⟨g, 0, none⟩ = some (.map (some b)) := (blk_cell hDc.blk 0).trans rfl
              have d70 : ({ Wc with drawn := Wc.drawn + 1 } : World).cell? ⟨kf, 0, none⟩ = some (.string fh) := hflc.cells.1
              have d71 : ({ Wc with drawn := Wc.drawn + 1 } : World).cell? ⟨kf, 1, none⟩ = some (.int .i64 nn) := hflc.cells.2.1
              have HDd := Lib.hid (hDc.move rfl rfl : IsDk { Wc with drawn := Wc.drawn + 1 } g b ⟨m3, false, false, 0⟩)
              have HFd := Lib.hid (show Fr (Two g b) W { Wc with drawn := Wc.drawn + 1 } from hFc.drew)
              have HFr := Lib.hid (show Fr (Two g b) wr { Wc with drawn := Wc.drawn + 1 } from hFr.drew)
              have hn0 : (0 : Int) ≤ (nn : Int) := by omega
              have hnb2 : nn ≤ fh.size := by omega
              clear hWb hflb hDb hflc hDc hFc hFr
              refine wp_region_still_tail 13 (by kernel_rfl) (by kernel_rfl) ?_
              simp only [List.take_succ_cons, List.take_zero, List.drop_succ_cons, List.drop_zero]
              generalize ({ Wc with drawn := Wc.drawn + 1 } : World) = Wd at *
              repeat still_step
              refine wpStill_nil ?_
              refine step_put rfl _ _ _ rfl b m3 rfl HDd.out.own (Nat.le_trans HDd.out.fine.many (by decide)) s ⟨fh.extract 0 nn, nn⟩ rfl rfl hsz ?_
              intro We ho hg
              have htorn : torn ⟨fh, fs⟩ (x) = ⟨fh.extract 0 nn, nn⟩ := by
                have e : fs + (max 0 (x)) % (tail ⟨fh, fs⟩ + 1) = (nn : Int) := by
                  rw [← HNN.out]
                  show fs + (max 0 x) % ((fh.size : Int) - fs + 1) = _
                  rw [HY.out]
                unfold torn
                rw [e, Int.toNat_natCast]
              have hput : crashL ((FM.names d.m).drop (j + 1)) (r) (FM.put m3 s.data.toList ⟨fh.extract 0 nn, nn⟩) = m0 := by
                have h1 := HM'.out
                rw [← htorn]
                exact h1
              have hfin : AllFine (FM.put m3 s.data.toList ⟨fh.extract 0 nn, nn⟩) := by
                have h1 := torn_fine (m := m3) ⟨HDd.out.fine.fls, HDd.out.fine.many⟩ (n := s.data.toList) (by rw [HFile.out]; show ¬ (fh.size : Int) - fs = 0; omega) (x)
                rw [HFile.out, htorn] at h1
                exact h1
              have HT := Lib.hid (HDd.out.turn ho hg ⟨hfin.1, hfin.2, Int.le_refl _, by show (0 : Int) ≤ _; decide⟩)
              have HFe := Lib.hid (HFd.out.trans HT.out.2)
              have HFre := Lib.hid (HFr.out.trans HT.out.2)
              have HP := Lib.hid hput
              clear ho hg c0 d70 d71 hput hfin htorn
              go_wp2_with fail
              go_roundg kq1
              case measure => omega
              case rel => exact ⟨j + 1, some (ad3.add 1), r, c3 - 1, _, rfl, by go_num, Lib.hid ⟨by omega, by omega, by have : r.length + 1 ≤ _ := q3; omega, by omega, by have : r.length + 1 ≤ 4096 := q5; omega⟩, HP, HT.out.1, HFe, Lib.hid (HAT.out _ HFre.out), Lib.hid (HN3.out.fr HFre.out), Lib.hid (fun z hz => HR3.out z (by simp [hz]))⟩
      · have hji : ¬ (j : Int) < (L.length : Int) := by omega
        have hM := HM.out
        have hl : (FM.names d.m).length ≤ j := by
          have : L.length = (FM.names d.m).length := by rw [← HL.out]; unfold nameL; rw [List.length_map]
          omega
        rw [List.drop_eq_nil_of_le hl] at hM
        have HM' := Lib.hid (show m3 = m0 from hM)
        clear hM hl q1 q2 q3 q4 q5 hj
        go_wp2
        go_ret
        have hD := HD3.out
        rw [HM'.out] at hD
        exact ⟨rfl, hD, HF3.out⟩
end Go.Proofs.Ytjkllbilfcopmaa.Dk
