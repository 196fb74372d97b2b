import Derived.Test.YtmfbmagbpceomaaWireFeed0
namespace Go.Proofs.Ytmfbmagbpceomaa.Wire
open Go.RowKit Go.Proofs.YtmfbmagbpceomaaW.PrintWords Go.Proofs.YtmfbmagbpceomaaW.PrintLast Go.Proofs.YtmfbmagbpceomaaW.PrintMore
set_option linter.unusedVariables false
set_option linter.unusedSimpArgs false
set_option maxHeartbeats 8000000 in
theorem feed_main (g : Nat) (kept : List Int) (b : ByteArray) (w0 w : World) (hS : St w0 w g kept false) (hB : Below w0.heap.size w0 w) (hb : ¬ 262144 < b.size) (hk : kept.length ≤ 100000000) :
    Calls Try.prog 19 #[.pointer (some ⟨g, 0, none⟩), .string b] w (FeedPost w0 w g (feedF kept false b)) := by
  have hf : feedF kept false b = fl ((kept ++ bytesOf b).length + 1) (kept ++ bytesOf b) [] 0 := by simp [feedF, hb]
  rw [hf]
  clear hf
  obtain ⟨hge, kv, hbl, ho⟩ := hS
  have c0 := blk_cell hbl 0
  have c1 := blk_cell hbl 1
  have f0 := blk_frozen hbl 0
  have f1 := blk_frozen hbl 1
  simp at c0 c1
  have ho' := Aside0.mk ho
  have hbl' := Aside0.mk hbl
  have hz : decide (262144 < (b.size : Int)) = false := decide_eq_false (by omega)
  clear hbl ho
  have hne : some g ≠ kv.ownBlock := fun hk_ => by
    obtain ⟨cs, hc⟩ := own_typed ho'.out g hk_.symm
    rw [hbl'.out] at hc; injection hc with hc; injection hc with _ hc; exact absurd hc (by decide)
  obtain ⟨all, hall⟩ : ∃ all, all = kept ++ bytesOf b := ⟨_, rfl⟩
  have hal : all.length = kept.length + b.size := by rw [hall, List.length_append, bytesOf_length]
  have hlen : all.length ≤ 200000000 := by omega
  rw [← hall]
  obtain ⟨r, hr⟩ : ∃ r, fl (all.length + 1) all [] 0 = r := ⟨_, rfl⟩
  rw [hr]
  have hr' := Aside0.mk hr
  have hall' := Aside0.mk hall
  clear hall
  clear hr hal
  have HB := Aside0.mk hB
  clear hB
  go_enter Try.func19, Try.ntmps19
  go_wp2_with (first | ((with_reducible refine gate_builtin (b := .append) (xs := #[.tmp 21, .tmp 22]) rfl ?_); at_builtin; refine print_append_str (w0 := w0) w0.heap.size rfl (.tmp 21) (.tmp 22) 23 9 5 rfl Try.underlying23 Try.underlying9 info5 kv kept b rfl rfl ho'.out HB.out HB.out.size (by omega) ?_; intro v1 w1 ho1 hB1 hg1; rw [← hall'.out] at ho1; obtain ⟨A1, k1, rfl⟩ := own_slice ho1; have hbl1 := Aside0.mk (blk_grown hbl'.out hg1 hne); have K1 := Aside0.mk ((KT.refl w g).grown ho'.out hg1); have ho1' := Aside0.mk ho1; have hB1' := Aside0.mk hB1; clear ho1 hB1 hg1; clear f0 f1 c1; have f0 := blk_frozen hbl1.out 0; have f1 := blk_frozen hbl1.out 1; have c0 := blk_cell hbl1.out 0; have c1 := blk_cell hbl1.out 1; simp only [List.getElem?_toArray, List.getElem?_cons_zero, List.getElem?_cons_succ] at c0 c1))
  have hbl2 : Aside0 ((w1.setCell ⟨g, 0, none⟩ (.slice A1 all.length k1)).heap[g]? = some (.cells #[.slice A1 all.length k1, .bool false] 72 (0, 0))) := ⟨blk_put hbl1.out 0 _ rfl⟩
  have ho2 : Aside0 ((w1.setCell ⟨g, 0, none⟩ (.slice A1 all.length k1)).ownsRow w0.heap.size 5 1 (.slice A1 all.length k1) all.length (nums .u8 all)) := ⟨own_move ho1'.out fun k hk_ => by
    obtain ⟨cs, hc⟩ := own_typed ho1'.out k hk_
    exact Below.heap_setCell w1 ⟨g, 0, none⟩ _ k fun hkg => by
      change k = g at hkg
      subst hkg; rw [hbl1.out] at hc; injection hc with hc; injection hc with _ hc; exact absurd hc (by decide)⟩
  have HB2 : Aside0 (Below w0.heap.size w0 (w1.setCell ⟨g, 0, none⟩ (.slice A1 all.length k1))) := ⟨below_set hB1'.out hge⟩
  have K2 : Aside0 (KT w (w1.setCell ⟨g, 0, none⟩ (.slice A1 all.length k1)) g) := ⟨K1.out.set_ 0 _⟩
  clear hbl1 ho1' hB1' K1 f0 f1 c0 c1
  generalize (w1.setCell ⟨g, 0, none⟩ (.slice A1 all.length k1)) = w2 at *
  clear hne hbl' ho' 
  go_loopg [4, 6] (all.length + 1) (fun kq v4 v6 w' => ∃ (acc : List ByteArray) (at_ : Nat), v6 = .int .i64 (at_ : Int) ∧ Aside0 (fl kq all acc at_ = r ∧ at_ ≤ all.length ∧ all.length - at_ < kq ∧ acc.length ≤ at_) ∧ Aside0 (kq ≤ all.length + 1) ∧ Aside0 (Kd.R Kd.string 9 w' w.heap.size (fun _ => True) v4 acc) ∧ Aside0 (w'.heap[g]? = some (.cells #[.slice A1 all.length k1, .bool false] 72 (0, 0)) ∧ w'.ownsRow w0.heap.size 5 1 (.slice A1 all.length k1) all.length (nums .u8 all) ∧ Below w0.heap.size w0 w' ∧ KT w w' g))
  case atStart => exact ⟨[], 0, rfl, ⟨hr'.out, Nat.zero_le _, by omega, Nat.zero_le _⟩, ⟨Nat.le_refl _⟩, ⟨Kd.R_nil _ _ _ _ _⟩, ⟨hbl2.out, ho2.out, HB2.out, K2.out⟩⟩
  case round =>
    obtain ⟨acc, at_, rfl, HA, HK, HR, HS⟩ := hrel
    have hacc := HA.out.2.2.2
    obtain ⟨i0, i5, hzz⟩ := Option.map_eq_some_iff.1 info5
    simp only [Prod.mk.injEq] at hzz
    obtain ⟨_, z5, _⟩ := hzz
    clear hr' hbl2 ho2 HB2 K2
    cases gk with
    | zero => exact absurd HA.out.2.2.1 (by omega)
    | succ kq1 =>
      obtain ⟨hA1, hA2, hA3, hA4⟩ := HA.out
      obtain ⟨hblr, hor, hBr, hKr⟩ := HS.out
      have c0 := blk_cell hblr 0
      have c1 := blk_cell hblr 1
      have f0 := blk_frozen hblr 0
      have f1 := blk_frozen hblr 1
      simp only [List.getElem?_toArray, List.getElem?_cons_zero, List.getElem?_cons_succ] at c0 c1
      obtain ⟨hnc, hrd, hcell⟩ := own8 hor
      clear hblr hor hBr hKr
      have H := hA1
      clear hA1
      unfold fl at H
      by_cases q1 : all.length < at_ + 4
      · rw [if_pos q1] at H
        obtain rfl := H
        have HA' := Aside0.mk hA2
        clear HA hcell
        go_wp2_with fail
        refine (long_short g A1 all.length _ at_ all wr c0 hrd hnc HA'.out (by omega) (by omega)).mono ?_
        rintro e W ⟨rfl, hd⟩
        obtain ⟨n1, rfl⟩ := hd.out
        clear hd
        go_wp2_with fail
        obtain ⟨A', hcut, hcr⟩ := print_cut (P := Try.prog) 23 5 .i64 Try.underlying23 i5 z5 A1 all.length _ at_ HA'.out
        have hcr' := hcr wr .u8 all hnc hrd
        clear hcr c0 c1 f0 f1 hrd
        obtain ⟨w3, hw3⟩ : ∃ w3, w3 = wr.drewN n1 := ⟨_, rfl⟩
        rw [← hw3]
        have HB3 : Aside0 (w3.heap[g]? = some (.cells #[.slice A1 all.length k1, .bool false] 72 (0, 0))) := by rw [hw3]; exact ⟨HS.out.1⟩
        have HO3 : Aside0 (w3.ownsRow w0.heap.size 5 1 (.slice A1 all.length k1) all.length (nums .u8 all)) := by rw [hw3]; exact ⟨HS.out.2.1⟩
        have HC3 : Aside0 (ReadsInt w3 .u8 A' (all.length - at_) (all.drop at_)) := by rw [hw3]; exact ⟨hcr'⟩
        have HW3 : Aside0 (Below w0.heap.size w0 w3) := by rw [hw3]; exact ⟨pw_below_drewN HS.out.2.2.1 n1⟩
        have HT3 : Aside0 (KT w w3 g) := by rw [hw3]; exact ⟨HS.out.2.2.2⟩
        have HR3 : Aside0 (Kd.R Kd.string 9 w3 w.heap.size (fun _ => True) u4 acc) := by rw [hw3]; exact ⟨HR.out⟩
        clear hcr' HS HR hw3 HK
        have c0 := blk_cell HB3.out 0
        have f0 := blk_frozen HB3.out 0
        simp only [List.getElem?_toArray, List.getElem?_cons_zero, List.getElem?_cons_succ] at c0
        rcases HO3.out.2 with ⟨hv, h0⟩ | ⟨kb, cap, cur, hv, hkb, hcur, hncap, hcm, hcs, htk⟩
        · injection hv with ha hn hv
          subst hv
          subst ha
          obtain rfl : all = [] := List.eq_nil_of_length_eq_zero h0
          obtain rfl : at_ = 0 := by have := HA'.out; simp at this; exact this
          have hcut2 : ∀ W : World, (Instr.slice 23 (.slice none 0 0) none (some (.int .i64 0)) none).run Try.prog W = .ok (.slice none 0 0) W := fun W => by
            have hel : Try.prog.elem 23 = 5 := by simp [Program.elem, Try.underlying23]
            rw [run_slice_h W 23 none 0 0 (by rw [hel]; exact Try.underlying23) .i64 _ (by decide) (by decide)]
            simp [sizeOf, typeInfo, hel, i5, z5, sliced, Result.andThen, add_plain]
          simp only [List.length_nil, Nat.sub_zero, Int.natCast_zero] at hcut c0 ⊢
          go_region_law (refine step_copy_none rfl (.tmp 81) (.tmp 87) 23 23 rfl 5 Try.underlying23 size5 none A' 0 0 0 (0 - 0) rfl rfl rfl ?_)
          all_goals
            have P' := Aside0.mk (after_nil hge HB3.out HW3.out HT3.out HR3.out)
            clear c0 f0 hcut hcut2 HB3 HO3 HC3 HW3 HT3 HR3
            go_wp2
            go_ret2
            exact ⟨_, rfl, P'.out.1, P'.out.2.1, P'.out.2.2.1, P'.out.2.2.2⟩
        · injection hv with ha _ hv
          subst hv
          subst ha
          have hgk : g ≠ kb := ne_of_types HB3.out hcur (by decide)
          have hcs' : cur.size = k1 := by omega
          have hcut2 : ∀ W : World, (Instr.slice 23 (.slice (some ⟨kb, 0, none⟩) all.length k1) none (some (.int .i64 ((all.length - at_ : Nat) : Int))) none).run Try.prog W = .ok (.slice (some ⟨kb, 0, none⟩) (all.length - at_) k1) W := fun W => by
            have hel : Try.prog.elem 23 = 5 := by simp [Program.elem, Try.underlying23]
            rw [run_slice_h W 23 (some ⟨kb, 0, none⟩) all.length k1 (by rw [hel]; exact Try.underlying23) .i64 _ (Int.natCast_nonneg _) (by omega)]
            simp [sizeOf, typeInfo, hel, i5, z5, sliced, Result.andThen, add_plain]
          go_region_law (refine step_copy_mine rfl (.tmp 81) (.tmp 87) 23 23 rfl 5 Try.underlying23 size5 (some ⟨kb, 0, none⟩) A' all.length k1 (all.length - at_) (k1 - at_) rfl rfl kb 0 cur.toList 5 hcur (nums .u8 (all.drop at_)) (nums_min HA'.out) (fun hp_ => ⟨rfl, nums_cells HC3.out hp_⟩) (nums_fit HA'.out hncap hcs') nums_one ?_; intro w4 hk4 hg4; have c04 : w4.cell? ⟨g, 0, none⟩ = some (.slice (some ⟨kb, 0, none⟩) all.length k1) := (World.cell?_of_block (hg4.block g (blk_lt HB3.out) (fun e_ => hgk (by injection e_)))).trans c0; have f04 : w4.frozen? ⟨g, 0, none⟩ = false := (World.frozen?_of_block (hg4.block g (blk_lt HB3.out) (fun e_ => hgk (by injection e_)))).trans f0; rw [show (nums .u8 (all.drop at_)).length = all.length - at_ by simp [nums]])
          all_goals
            obtain ⟨p1, p2, p3, p4⟩ := after_copy hge HB3.out hkb hcur hcs' hcm hnc HA'.out hk4 hg4 HW3.out HT3.out HR3.out
            clear hk4 hg4 c04 f04 c0 f0 hcut hcut2 HB3 HO3 HC3 HW3 HT3 HR3
            have P' := Aside0.mk (And.intro p1 (And.intro p2 (And.intro p3 p4)))
            clear p1 p2 p3 p4
            go_wp2
            go_ret2
            exact ⟨_, rfl, P'.out.1, P'.out.2.1, P'.out.2.2.1, P'.out.2.2.2⟩
      · rw [if_neg q1] at H
        obtain ⟨kb, cur, hA1k, hkb, hcur, hcs, hcm, htk, hcl⟩ := hcell (by omega)
        have c0k := c0
        rw [hA1k] at c0k
        have hA1k' := Aside0.mk hA1k
        clear hA1k
        obtain ⟨L, hL⟩ : ∃ L, L = be4 (rd all (at_ : Nat)) (rd all (at_ + 1 : Nat)) (rd all (at_ + 2 : Nat)) (rd all (at_ + 3 : Nat)) := ⟨_, rfl⟩
        have hLr := be4_range (rd all (at_ : Nat)) (rd all (at_ + 1 : Nat)) (rd all (at_ + 2 : Nat)) (rd all (at_ + 3 : Nat))
        rw [← hL] at H hLr
        have HL := Aside0.mk hL
        clear hL HA hcell hkb hcur hcs hcm htk
        by_cases q2 : 65536 < L
        · rw [if_pos q2] at H
          obtain rfl := H
          have q2' : decide (65536 < L) = true := decide_eq_true q2
          go_wp2_with fail
          refine (long_whole g kb all.length _ at_ all wr c0k hcl hnc (by omega) (by omega)).mono ?_
          rintro e W ⟨rfl, hd⟩
          obtain ⟨n1, rfl⟩ := hd.out
          rw [← HL.out]
          clear hd hcl c0k
          have P' := Aside0.mk (after_bad (w3 := wr.drewN n1) hge HS.out.1 (pw_below_drewN HS.out.2.2.1 n1) HS.out.2.2.2 HR.out)
          clear HS HR HK hrd
          go_wp2
          go_ret2
          exact ⟨_, rfl, P'.out.1, P'.out.2.1, P'.out.2.2.1, P'.out.2.2.2⟩
        · rw [if_neg q2] at H
          have q2' : decide (65536 < L) = false := decide_eq_false q2
          obtain ⟨l, rfl⟩ := Int.eq_ofNat_of_zero_le hLr.1
          simp only [Int.toNat_natCast] at H
          have hl : l ≤ 65536 := by omega
          by_cases q3 : all.length < at_ + 4 + l
          · rw [if_pos q3] at H
            obtain rfl := H
            have q3' : (all.length : Int) < (at_ : Int) + 4 + (l : Int) := by omega
            have HA' := Aside0.mk hA2
            go_wp2_with fail
            refine (long_whole g kb all.length _ at_ all wr c0k hcl hnc (by omega) (by omega)).mono ?_
            rintro e W ⟨rfl, hd⟩
            obtain ⟨n1, rfl⟩ := hd.out
            rw [← HL.out]
            clear hd hcl c0k
            go_wp2_with fail
            obtain ⟨A', hcut, hcr⟩ := print_cut (P := Try.prog) 23 5 .i64 Try.underlying23 i5 z5 A1 all.length _ at_ HA'.out
            have hcr' := hcr wr .u8 all hnc hrd
            clear hcr c0 c1 f0 f1 hrd
            obtain ⟨w3, hw3⟩ : ∃ w3, w3 = wr.drewN n1 := ⟨_, rfl⟩
            rw [← hw3]
            have HB3 : Aside0 (w3.heap[g]? = some (.cells #[.slice A1 all.length k1, .bool false] 72 (0, 0))) := by rw [hw3]; exact ⟨HS.out.1⟩
            have HO3 : Aside0 (w3.ownsRow w0.heap.size 5 1 (.slice A1 all.length k1) all.length (nums .u8 all)) := by rw [hw3]; exact ⟨HS.out.2.1⟩
            have HC3 : Aside0 (ReadsInt w3 .u8 A' (all.length - at_) (all.drop at_)) := by rw [hw3]; exact ⟨hcr'⟩
            have HW3 : Aside0 (Below w0.heap.size w0 w3) := by rw [hw3]; exact ⟨pw_below_drewN HS.out.2.2.1 n1⟩
            have HT3 : Aside0 (KT w w3 g) := by rw [hw3]; exact ⟨HS.out.2.2.2⟩
            have HR3 : Aside0 (Kd.R Kd.string 9 w3 w.heap.size (fun _ => True) u4 acc) := by rw [hw3]; exact ⟨HR.out⟩
            clear hcr' HS HR hw3 HK
            have c0 := blk_cell HB3.out 0
            have f0 := blk_frozen HB3.out 0
            simp only [List.getElem?_toArray, List.getElem?_cons_zero, List.getElem?_cons_succ] at c0
            rcases HO3.out.2 with ⟨hv, h0⟩ | ⟨kb, cap, cur, hv, hkb, hcur, hncap, hcm, hcs, htk⟩
            · injection hv with ha hn hv
              subst hv
              subst ha
              obtain rfl : all = [] := List.eq_nil_of_length_eq_zero h0
              obtain rfl : at_ = 0 := by have := HA'.out; simp at this; exact this
              have hcut2 : ∀ W : World, (Instr.slice 23 (.slice none 0 0) none (some (.int .i64 0)) none).run Try.prog W = .ok (.slice none 0 0) W := fun W => by
                have hel : Try.prog.elem 23 = 5 := by simp [Program.elem, Try.underlying23]
                rw [run_slice_h W 23 none 0 0 (by rw [hel]; exact Try.underlying23) .i64 _ (by decide) (by decide)]
                simp [sizeOf, typeInfo, hel, i5, z5, sliced, Result.andThen, add_plain]
              simp only [List.length_nil, Nat.sub_zero, Int.natCast_zero] at hcut c0 ⊢
              go_region_law (refine step_copy_none rfl (.tmp 81) (.tmp 87) 23 23 rfl 5 Try.underlying23 size5 none A' 0 0 0 (0 - 0) rfl rfl rfl ?_)
              all_goals
                have P' := Aside0.mk (after_nil hge HB3.out HW3.out HT3.out HR3.out)
                clear c0 f0 hcut hcut2 HB3 HO3 HC3 HW3 HT3 HR3
                go_wp2
                go_ret2
                exact ⟨_, rfl, P'.out.1, P'.out.2.1, P'.out.2.2.1, P'.out.2.2.2⟩
            · injection hv with ha _ hv
              subst hv
              subst ha
              have hgk : g ≠ kb := ne_of_types HB3.out hcur (by decide)
              have hcs' : cur.size = k1 := by omega
              have hcut2 : ∀ W : World, (Instr.slice 23 (.slice (some ⟨kb, 0, none⟩) all.length k1) none (some (.int .i64 ((all.length - at_ : Nat) : Int))) none).run Try.prog W = .ok (.slice (some ⟨kb, 0, none⟩) (all.length - at_) k1) W := fun W => by
                have hel : Try.prog.elem 23 = 5 := by simp [Program.elem, Try.underlying23]
                rw [run_slice_h W 23 (some ⟨kb, 0, none⟩) all.length k1 (by rw [hel]; exact Try.underlying23) .i64 _ (Int.natCast_nonneg _) (by omega)]
                simp [sizeOf, typeInfo, hel, i5, z5, sliced, Result.andThen, add_plain]
              go_region_law (refine step_copy_mine rfl (.tmp 81) (.tmp 87) 23 23 rfl 5 Try.underlying23 size5 (some ⟨kb, 0, none⟩) A' all.length k1 (all.length - at_) (k1 - at_) rfl rfl kb 0 cur.toList 5 hcur (nums .u8 (all.drop at_)) (nums_min HA'.out) (fun hp_ => ⟨rfl, nums_cells HC3.out hp_⟩) (nums_fit HA'.out hncap hcs') nums_one ?_; intro w4 hk4 hg4; have c04 : w4.cell? ⟨g, 0, none⟩ = some (.slice (some ⟨kb, 0, none⟩) all.length k1) := (World.cell?_of_block (hg4.block g (blk_lt HB3.out) (fun e_ => hgk (by injection e_)))).trans c0; have f04 : w4.frozen? ⟨g, 0, none⟩ = false := (World.frozen?_of_block (hg4.block g (blk_lt HB3.out) (fun e_ => hgk (by injection e_)))).trans f0; rw [show (nums .u8 (all.drop at_)).length = all.length - at_ by simp [nums]])
              all_goals
                obtain ⟨p1, p2, p3, p4⟩ := after_copy hge HB3.out hkb hcur hcs' hcm hnc HA'.out hk4 hg4 HW3.out HT3.out HR3.out
                clear hk4 hg4 c04 f04 c0 f0 hcut hcut2 HB3 HO3 HC3 HW3 HT3 HR3
                have P' := Aside0.mk (And.intro p1 (And.intro p2 (And.intro p3 p4)))
                clear p1 p2 p3 p4
                go_wp2
                go_ret2
                exact ⟨_, rfl, P'.out.1, P'.out.2.1, P'.out.2.2.1, P'.out.2.2.2⟩
          · rw [if_neg q3] at H
            obtain ⟨A2, hcutd, hconv⟩ := cut_string hrd hnc (show at_ + 4 + l ≤ all.length by omega)
            have q3' : ¬ (all.length : Int) < (at_ : Int) + 4 + (l : Int) := by omega
            go_wp2_with fail
            refine (long_whole g kb all.length _ at_ all wr c0k hcl hnc (by omega) (by omega)).mono ?_
            rintro e W ⟨rfl, hd⟩
            obtain ⟨n1, rfl⟩ := hd.out
            rw [← HL.out]
            clear hd hcl c0k
            replace hconv := hconv n1
            have HR' : Aside0 (Kd.R Kd.string 9 (wr.drewN n1) w.heap.size (fun _ => True) u4 acc) := ⟨Kd.R_drewN HR.out n1⟩
            have HS' : Aside0 (Below w0.heap.size w0 (wr.drewN n1) ∧ KT w (wr.drewN n1) g ∧ w.heap.size ≤ (wr.drewN n1).heap.size ∧ w0.heap.size ≤ w.heap.size ∧ (wr.drewN n1).heap[g]? = some (.cells #[.slice A1 all.length k1, .bool false] 72 (0, 0)) ∧ (wr.drewN n1).ownsRow w0.heap.size 5 1 (.slice A1 all.length k1) all.length (nums .u8 all)) := ⟨pw_below_drewN HS.out.2.2.1 n1, HS.out.2.2.2, HS.out.2.2.2.1, HB.out.size, HS.out.1, HS.out.2.1⟩
            clear HS HR
            have c03 : (wr.drewN n1).cell? ⟨g, 0, none⟩ = some (.slice A1 all.length k1) := c0
            clear c0 f0 f1 c1 hrd
            have HM := Aside0.mk (show acc.length + 1 ≤ at_ + 4 + l ∧ at_ + 4 + l ≤ all.length by omega)
            have H' := Aside0.mk H
            clear H hacc hA4
            generalize wr.drewN n1 = w3 at *
            have hcutd' := Aside0.mk hcutd
            have hconv' := Aside0.mk hconv
            clear hcutd hconv
            go_wp2_with (first | ((with_reducible refine gate_dst (N := 68) rfl ?_); refine Kd.event_run (v := .slice A2 l (k1 - (at_ + 4))) (w1 := w3) rfl (cut_run rfl rfl rfl rfl elem23 (hcutd'.out _)) ?_) | ((with_reducible refine gate_dst (N := 69) rfl ?_); refine Kd.event_run (v := .string (strOfNums ((all.drop (at_ + 4)).take l))) (w1 := w3) rfl (conv_run rfl rfl hconv'.out) ?_) | ((with_reducible refine gate_builtin (b := .append) (xs := #[.tmp 60, .tmp 70]) rfl ?_); at_builtin; refine Kd.R_append Kd.string (w0 := w3) w.heap.size rfl (.tmp 60) (.tmp 70) 27 9 (.string ⟨#[]⟩) 16 rfl Try.underlying27 info9 rfl (by decide) (by omega) u4 acc (strOfNums ((all.drop (at_ + 4)).take l)) [.string (strOfNums ((all.drop (at_ + 4)).take l))] (fun _ => True) (fun _ => False) rfl rfl rfl (fun _ h => h.elim) (fun _ _ => trivial) HR'.out (Below.refl _ _) HS'.out.2.2.1 (by have := HM.out; omega) ?_; intro v1 w5 hr5 _ hg5 _; have HR5 := Aside0.mk hr5; have HS5 := Aside0.mk (after_append (w := w) (w1 := w5) HS'.out.2.2.2.1 HS'.out.2.2.2.2.1 HS'.out.2.2.2.2.2 HS'.out.1 HS'.out.2.1 HR'.out hg5); clear hr5 hg5 c03))
            go_roundg kq1
            case measure => have := HK.out; omega
            case rel => exact ⟨_, at_ + 4 + l, by simp, ⟨H'.out, HM.out.2, by have := HM.out; omega, by rw [List.length_append]; exact HM.out.1⟩, ⟨by have := HK.out; omega⟩, ⟨HR5.out⟩, ⟨HS5.out⟩⟩
end Go.Proofs.Ytmfbmagbpceomaa.Wire
