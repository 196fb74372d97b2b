import Derived.Test.YtjehbnhjaogfkaaSc32
import Derived.Test.YtjehbnhjaogfkaaSc4
namespace Go.Proofs.Ytjehbnhjaogfkaa.Sc
open Go.RowKit Go.Lib Go.Maps Go.WideAt Go.WideShapes Go.Proofs.YtjehbnhjaogfkaaW.PrintWords Go.Proofs.YtjehbnhjaogfkaaW.PrintLast Go.Proofs.YtjehbnhjaogfkaaW.PrintMore
open Go.Proofs.Ytjehbnhjaogfkaa
set_option linter.unusedVariables false
set_option linter.unusedSimpArgs false
set_option maxRecDepth 100000 in
set_option maxHeartbeats 4000000 in
theorem rlistN_walk (W : World) (g : Nat) (s : RS) (h : Rd W g s) (hl : s.b.length ≤ 1000000000) :
    Calls Try.prog 100 #[.pointer (some ⟨g, 0, none⟩), .func (.func 79) #[.pointer (some ⟨g, 0, none⟩)] #[]] W fun e W' => ∃ v, e = .returned v ∧ (Kd.int .i64).R 3 W' W.heap.size (fun _ => True) v (rlist rnum s).1 ∧ Rd W' g (rlist rnum s).2 ∧ Fr (Only g) W W' := by
  have H := Aside0.mk h
  have HL := Aside0.mk h.lt
  obtain ⟨n, hn⟩ : ∃ n, (rnum s).1 = n := ⟨_, rfl⟩
  obtain ⟨⟨b1, bad1⟩, hs1⟩ : ∃ s1, (rnum s).2 = s1 := ⟨_, rfl⟩
  have hb1 := rnum_b s
  rw [hs1] at hb1
  simp only at hb1
  obtain ⟨bd, hbd⟩ : ∃ bd, (bad1 || decide (n < 0) || decide (4096 < n)) = bd := ⟨_, rfl⟩
  obtain ⟨R, hR⟩ : ∃ R, rlist rnum s = R := ⟨_, rfl⟩
  have HR := Aside0.mk (show rloop rnum n.toNat [] ⟨b1, bd⟩ = R by rw [← hR]; unfold rlist; rw [hn, hs1, hbd])
  rw [hR]
  have HBd := Aside0.mk hbd
  have HN := Aside0.mk hn
  have HS := Aside0.mk hs1
  have HNR := Aside0.mk (show n ≤ 9223372036854775807 from by rw [← hn]; exact (toI_range _).2)
  clear h hn hs1 hbd hR
  go_enter Try.func100, Try.ntmps100
  go_upto_region 2 with (go_at_call 103; refine (rnum_walk _ g s H.out hl).mono ?_; rw [HN.out, HS.out]; rintro e w1 ⟨rfl, h1, hf1⟩; have x1 : w1.cell? ⟨g, 1, none⟩ = some (.bool bad1) := (blk_cell h1 1).trans rfl; have f1 : w1.frozen? ⟨g, 1, none⟩ = false := blk_frozen h1 1; have H1 := Aside0.mk h1; have F1 := Aside0.mk hf1; clear h1 hf1)
  have HP := Aside0.mk (fun x : Bool => (show Rd (w1.setCell ⟨g, 1, none⟩ (.bool x)) g ⟨b1, x⟩ from blk_put H1.out 1 (.bool x) rfl))
  have HW := Aside0.mk (fun x : Bool => (show Fr (Only g) W (w1.setCell ⟨g, 1, none⟩ (.bool x)) from F1.out.trans (fr_set w1 g 1 (.bool x))))
  go_cut [5] (fun v5 wd => v5 = .int .i64 n ∧ Aside0 (Rd wd g ⟨b1, bd⟩) ∧ Aside0 (Fr (Only g) W wd))
  case first =>
    cases bad1 with
    | true =>
      obtain rfl : bd = true := by rw [← HBd.out]; rfl
      go_wp2_with fail
      go_meet
      exact ⟨rfl, ⟨HP.out true⟩, ⟨HW.out true⟩⟩
    | false =>
      by_cases h0 : n < 0
      · obtain rfl : bd = true := by rw [← HBd.out]; simp [h0]
        go_wp2_with fail
        go_meet
        exact ⟨rfl, ⟨HP.out true⟩, ⟨HW.out true⟩⟩
      · by_cases h4 : 4096 < n
        · obtain rfl : bd = true := by rw [← HBd.out]; simp [h4]
          go_wp2_with fail
          go_meet
          exact ⟨rfl, ⟨HP.out true⟩, ⟨HW.out true⟩⟩
        · obtain rfl : bd = false := by rw [← HBd.out]; simp [h0, h4]
          go_wp2_with fail
          go_meet
          exact ⟨rfl, ⟨HP.out false⟩, ⟨HW.out false⟩⟩
  case rest =>
  obtain ⟨rfl, HR0, HF0⟩ := hcut
  clear x1 f1 H1 F1 HP HW
  have hn4 : bd = false → n ≤ 4096 := fun hb => by have h := HBd.out; rw [hb] at h; simp at h; omega
  have HN4 := Aside0.mk hn4
  clear hn4 HBd
  go_wp2_with fail
  go_loopg [5, 6] (n.toNat + 2) (fun kq v5 v6 w' => ∃ (m : Int) (acc : List Int) (s2 : RS), v5 = .int .i64 m ∧ Aside0 (kq = m.toNat + 2 ∧ m ≤ 9223372036854775807 ∧ acc.length + m.toNat ≤ n.toNat ∧ (s2.bad = false → n ≤ 4096) ∧ s2.b.length ≤ s.b.length) ∧ Aside0 (rloop rnum m.toNat acc s2 = R) ∧ Aside0 ((Kd.int .i64).R 3 w' W.heap.size (fun _ => True) v6 acc) ∧ Aside0 (Rd w' g s2) ∧ Aside0 (Fr (Only g) W w'))
  case atStart => exact ⟨n, [], ⟨b1, bd⟩, rfl, ⟨rfl, HNR.out, by simp, HN4.out, hb1⟩, HR, ⟨Kd.R_nil _ _ _ _ _⟩, HR0, HF0⟩
  case round =>
    clear HR HR0 HF0
    obtain ⟨m, acc, ⟨b2, bad2⟩, rfl, HJ, HR, HA, HRd, HF⟩ := hrel
    have x1 : wr.cell? ⟨g, 1, none⟩ = some (.bool bad2) := (blk_cell HRd.out 1).trans rfl
    have hws := HF.out.size
    by_cases hm : 0 < m
    · obtain ⟨k1, hk1⟩ : ∃ k1, m.toNat = k1 + 1 := ⟨m.toNat - 1, by omega⟩
      have hR := HR.out
      rw [hk1] at hR
      cases bad2 with
      | true =>
        have hR2 : (acc, (⟨b2, true⟩ : RS)) = R := by rw [← hR]; rfl
        obtain rfl := hR2
        clear hR
        go_wp2_with fail
        go_ret
        exact ⟨_, rfl, HA.out, HRd.out, HF.out⟩
      | false =>
        have hR2 : rloop rnum k1 (acc ++ [(rnum ⟨b2, false⟩).1]) (rnum ⟨b2, false⟩).2 = R := by rw [← hR]; rfl
        have HR2 := Aside0.mk hR2
        have HK1 := Aside0.mk hk1
        have hb := rnum_b ⟨b2, false⟩
        obtain ⟨x, hx⟩ : ∃ x, (rnum ⟨b2, false⟩).1 = x := ⟨_, rfl⟩
        obtain ⟨s3, hs3⟩ : ∃ s3, (rnum ⟨b2, false⟩).2 = s3 := ⟨_, rfl⟩
        have HX := Aside0.mk hx
        have HS3 := Aside0.mk hs3
        have HB3 := Aside0.mk hb
        clear hR hR2 hk1 hb hx hs3
        obtain ⟨kq1, rfl⟩ : ∃ kq1, gk = kq1 + 1 := ⟨gk - 1, by have := HJ.out; omega⟩
        go_wp2_with fail
        refine (rplace_walk wr g ⟨b2, false⟩ HRd.out (Nat.le_trans HJ.out.2.2.2.2 hl)).mono ?_
        rw [HX.out, HS3.out]
        rintro e w3 ⟨rfl, h3, hf3⟩
        have HA3 := Aside0.mk (R_only HA.out hf3 HL.out)
        have H3 := Aside0.mk h3
        have F3 := Aside0.mk (HF.out.trans hf3)
        have hw3 : W.heap.size ≤ w3.heap.size := F3.out.size
        clear h3 hf3 x1
        have hmw : wrap64 (m - 1) = m - 1 := by have := HJ.out.2.1; unfold wrap64; omega
        have hn6 : n ≤ 4096 := HJ.out.2.2.2.1 (by first | rfl | trivial)
        go_wp2_with ((with_reducible refine gate_builtin (b := .append) (xs := #[.tmp 35, .tmp 38]) rfl ?_); at_builtin; refine Kd.R_append (Kd.int .i64) (w0 := w3) W.heap.size rfl (.tmp 35) (.tmp 38) 65 3 (.int .i64 0) 8 rfl Try.underlying65 info3 rfl (show 0 < 1 from by decide) (by decide) _ acc x [.int .i64 x] (fun _ => True) (fun _ => False) rfl rfl rfl (fun _ h => h.elim) (fun _ _ => trivial) HA3.out (Below.refl _ _) hw3 (by have h1 := HJ.out.2.2.1; have h2 := HJ.out.2.2.2.1 (by first | rfl | trivial); omega) ?_; intro v4 w4 hr4 hb4 hg4 hat4; have HA4 := Aside0.mk hr4; have H4 := Aside0.mk (rd_low H3.out hb4 HL.out); have F4 := Aside0.mk (fr_low F3.out hb4); clear hr4 hb4 hg4 hat4)
        go_roundg kq1
        case measure => omega
        case rel => exact ⟨m - 1, acc ++ [x], s3, by go_num, ⟨by have h1 := HJ.out.1; have h2 := HK1.out; omega, by have := HJ.out.2.1; omega, by have h1 := HJ.out.2.2.1; have h2 := HK1.out; rw [List.length_append]; simp only [List.length_singleton]; omega, fun _ => hn6, by have h1 := HJ.out.2.2.2.2; have h2 := HB3.out; rw [HS3.out] at h2; exact Nat.le_trans h2 h1⟩, ⟨by have h2 := HK1.out; rw [show (m - 1).toNat = k1 by omega, ← HX.out, ← HS3.out]; exact HR2.out⟩, HA4, H4, F4⟩
    · have hR2 : (acc, (⟨b2, bad2⟩ : RS)) = R := by rw [← HR.out, show m.toNat = 0 by omega]; rfl
      obtain rfl := hR2
      go_wp2_with fail
      go_ret
      exact ⟨_, rfl, HA.out, HRd.out, HF.out⟩
end Go.Proofs.Ytjehbnhjaogfkaa.Sc
