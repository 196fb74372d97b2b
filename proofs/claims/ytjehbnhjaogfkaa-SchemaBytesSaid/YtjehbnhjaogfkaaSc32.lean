import Derived.Test.YtjehbnhjaogfkaaSc31
namespace Go.Proofs.Ytjehbnhjaogfkaa.Sc
open Go.RowKit Go.Lib Go.Maps Go.WideAt Go.WideShapes Go.Proofs.YtjehbnhjaogfkaaW.PrintWords Go.Proofs.YtjehbnhjaogfkaaW.PrintLast Go.Proofs.YtjehbnhjaogfkaaW.PrintMore
open Go.Proofs.Ytjehbnhjaogfkaa
set_option linter.unusedVariables false
set_option linter.unusedSimpArgs false
theorem Rd.lt {W : World} {g : Nat} {s : RS} (h : Rd W g s) : g < W.heap.size := blk_lt h
theorem Rd.below {W W1 : World} {g : Nat} {s : RS} (h : Rd W g s) (hb : Below W.heap.size W W1) : Rd W1 g s := blk_below h hb
theorem Rd.far {W : World} {g : Nat} {s : RS} (h : Rd W g s) {p : Addr} (hp : p.block ≠ g) (v : Value) : Rd (W.setCell p v) g s := (Below.heap_setCell W p v g (fun e => hp e.symm)).trans h
def rcol (s : RS) : Col × RS := (⟨str (rtext s).1, (rnum (rtext s).2).1⟩, (rnum (rtext s).2).2)
theorem rcol_b (s : RS) : (rcol s).2.b.length ≤ s.b.length := Nat.le_trans (rnum_b _) (rtext_b s)
theorem blk_set {w : World} {q t : Nat} {cs : Array Value} (h : w.heap[q]? = some (.cells cs t (0, 0))) (i : Nat) (v : Value) (hi : i < cs.size) : (w.setCell ⟨q, i, none⟩ v).heap[q]? = some (.cells (cs.setIfInBounds i v) t (0, 0)) := blk_put h i v rfl
set_option maxRecDepth 100000 in
set_option maxHeartbeats 2000000 in
theorem rcol_walk (W : World) (g : Nat) (s : RS) (h : Rd W g s) (hl : s.b.length ≤ 1000000000) :
    Calls Try.prog 75 #[.pointer (some ⟨g, 0, none⟩)] W fun e W' => e = .returned (.agg #[.string (rcol s).1.nm, .int .i64 (rcol s).1.kd]) ∧ Rd W' g (rcol s).2 ∧ Fr (Only g) W W' := by
  obtain ⟨q, hq⟩ : ∃ q, W.heap.size = q := ⟨_, rfl⟩
  have hgq : g ≠ q := by have := h.lt; omega
  have H := Aside0.mk (h.below (below_alloc (Below.refl _ W) (.cells #[.string ⟨#[]⟩, .int .i64 0] 32)))
  have HF := Aside0.mk ((Fr.refl (Only g) W).alloc (.cells #[.string ⟨#[]⟩, .int .i64 0] 32))
  have HBx := Aside0.mk (show (W.alloc (.cells #[.string ⟨#[]⟩, .int .i64 0] 32)).heap[q]? = some (.cells #[.string ⟨#[]⟩, .int .i64 0] 32 (0, 0)) from hq ▸ heap_alloc_new W _)
  have HQ := Aside0.mk hq
  obtain ⟨nm, hnm⟩ : ∃ nm, (rtext s).1 = nm := ⟨_, rfl⟩
  obtain ⟨s1, hs1⟩ : ∃ s1, (rtext s).2 = s1 := ⟨_, rfl⟩
  have hb1 := rtext_b s
  rw [hs1] at hb1
  have HE := Aside0.mk (show rcol s = (⟨str nm, (rnum s1).1⟩, (rnum s1).2) by unfold rcol; rw [hnm, hs1])
  rw [HE.out]
  have HN := Aside0.mk hnm
  have HS := Aside0.mk hs1
  clear h hnm hs1
  go_enter Try.func75, Try.ntmps75
  go_wp2_with fail
  clear hq
  have HL := Aside0.mk (blk_lt HBx.out)
  generalize W.alloc (.cells #[.string ⟨#[]⟩, .int .i64 0] 32) = w0 at *
  refine (rtext_walk w0 g s H.out hl).mono ?_
  rw [HN.out, HS.out]
  rintro e w1 ⟨rfl, h1, hf1⟩
  have hb2 : w1.heap[q]? = some (.cells #[.string ⟨#[]⟩, .int .i64 0] 32 (0, 0)) := (hf1.block q HL.out fun e => hgq e.symm).trans HBx.out
  have c0 := (blk_cell hb2 0).trans (show _ = some (Value.string ⟨#[]⟩) from rfl)
  have f0 := blk_frozen hb2 0
  have H1 := Aside0.mk (h1.far (p := ⟨q, 0, none⟩) (fun e => hgq e.symm) (.string (str nm)))
  have HB1 := Aside0.mk (show (w1.setCell ⟨q, 0, none⟩ (.string (str nm))).heap[q]? = some (.cells #[.string (str nm), .int .i64 0] 32 (0, 0)) from blk_put hb2 0 _ rfl)
  have HF1 := Aside0.mk ((HF.out.trans hf1).set (p := ⟨q, 0, none⟩) (.inr (Nat.le_of_eq HQ.out)) (.string (str nm)))
  clear h1 hf1 hb2
  go_wp2_with fail
  clear c0 f0
  generalize w1.setCell ⟨q, 0, none⟩ (.string (str nm)) = w2 at *
  refine (rplace_walk w2 g s1 H1.out (by omega)).mono ?_
  obtain ⟨k, hk⟩ : ∃ k, (rnum s1).1 = k := ⟨_, rfl⟩
  obtain ⟨s2, hs2⟩ : ∃ s2, (rnum s1).2 = s2 := ⟨_, rfl⟩
  rw [hk, hs2]
  have HK := Aside0.mk hk
  have HS2 := Aside0.mk hs2
  rintro e w3 ⟨rfl, h3, hf3⟩
  have hb4 : w3.heap[q]? = some (.cells #[.string (str nm), .int .i64 0] 32 (0, 0)) := (hf3.block q (blk_lt HB1.out) fun e => hgq e.symm).trans HB1.out
  have c0 := (blk_cell hb4 0).trans (show _ = some (Value.string (str nm)) from rfl)
  have c1 := (blk_cell hb4 1).trans (show _ = some (Value.int .i64 0) from rfl)
  have f0 := blk_frozen hb4 0
  have f1 := blk_frozen hb4 1
  have hb5 : (w3.setCell ⟨q, 1, none⟩ (.int .i64 k)).heap[q]? = some (.cells #[.string (str nm), .int .i64 k] 32 (0, 0)) := blk_put hb4 1 _ rfl
  have hb6 : ((w3.setCell ⟨q, 1, none⟩ (.int .i64 k)).setCell ⟨q, 0, none⟩ (.string (str nm))).heap[q]? = some (.cells #[.string (str nm), .int .i64 k] 32 (0, 0)) := blk_put hb5 0 _ rfl
  have hb7 : (((w3.setCell ⟨q, 1, none⟩ (.int .i64 k)).setCell ⟨q, 0, none⟩ (.string (str nm))).setCell ⟨q, 1, none⟩ (.int .i64 k)).heap[q]? = some (.cells #[.string (str nm), .int .i64 k] 32 (0, 0)) := blk_put hb6 1 _ rfl
  have HZ := Aside0.mk hb7
  have H7 := Aside0.mk (((h3.far (p := ⟨q, 1, none⟩) (fun e => hgq e.symm) (.int .i64 k)).far (p := ⟨q, 0, none⟩) (fun e => hgq e.symm) (.string (str nm))).far (p := ⟨q, 1, none⟩) (fun e => hgq e.symm) (.int .i64 k))
  have hle : W.heap.size ≤ q := Nat.le_of_eq HQ.out
  have HF7 := Aside0.mk ((((HF1.out.trans hf3).set (p := ⟨q, 1, none⟩) (.inr hle) (.int .i64 k)).set (p := ⟨q, 0, none⟩) (.inr hle) (.string (str nm))).set (p := ⟨q, 1, none⟩) (.inr hle) (.int .i64 k))
  clear h3 hf3 hb4 hb5 hb6 hb7 hk hs2
  go_wp2_with fail
  clear c0 c1 f0 f1
  generalize ((w3.setCell ⟨q, 1, none⟩ (.int .i64 k)).setCell ⟨q, 0, none⟩ (.string (str nm))).setCell ⟨q, 1, none⟩ (.int .i64 k) = w8 at *
  have z0 := (blk_cell HZ.out 0).trans (show _ = some (Value.string (str nm)) from rfl)
  have z1 := (blk_cell HZ.out 1).trans (show _ = some (Value.int .i64 k) from rfl)
  refine bodyPost_ret (v := .agg #[.string (str nm), .int .i64 k]) (by first | (go_simp; done) | (simp [results, Try.f75, go_sem, z0, z1]; done) | (simp [results, Try.f75, go_sem, z0, z1]; rfl)) rfl ?_
  rw [HK.out, HS2.out]
  exact ⟨rfl, H7.out, HF7.out⟩
theorem toI_range (u : Int) : -9223372036854775808 ≤ toI u ∧ toI u ≤ 9223372036854775807 := by unfold toI wrap64; omega
/-- A row of the call's own lives on where the reader goes on. -/
theorem R_only {α : Type} {d : Kd α} {e base g : Nat} {w w1 : World} {v : Value} {xs : List α} (h : d.R e w base (fun _ => True) v xs) (hf : Fr (Only g) w w1) (hg : g < base) : d.R e w1 base (fun _ => True) v xs :=
  Kd.R_mono (Kd.R_move (Kd.R_bound h) fun k hk => hf.block k hk.2.2.1 fun e => by have := hk.2.1; unfold Only at e; omega) fun _ _ => trivial
theorem rd_low {base g : Nat} {w w1 : World} {s : RS} (h : Rd w g s) (hb : Below base w w1) (hg : g < base) : Rd w1 g s := (hb.block g hg).trans h
theorem fr_low {g : Nat} {W w w1 : World} (h : Fr (Only g) W w) (hb : Below W.heap.size w w1) : Fr (Only g) W w1 :=
  ⟨hb.os.trans h.os, hb.tape.trans h.tape, hb.output.trans h.output, Nat.le_trans h.size hb.size, fun k hk hn => (hb.block k hk).trans (h.block k hk hn)⟩
/-- A list's members, one by one. -/
def rloop {α : Type} (each : RS → α × RS) : Nat → List α → RS → List α × RS
  | 0, acc, s => (acc, s)
  | k + 1, acc, s => if s.bad then (acc, s) else rloop each k (acc ++ [(each s).1]) (each s).2
def rlist {α : Type} (each : RS → α × RS) (s : RS) : List α × RS :=
  rloop each (rnum s).1.toNat [] ⟨(rnum s).2.b, (rnum s).2.bad || decide ((rnum s).1 < 0) || decide (4096 < (rnum s).1)⟩
set_option maxRecDepth 100000 in
set_option maxHeartbeats 4000000 in
theorem rlistC_walk (W : World) (g : Nat) (s : RS) (h : Rd W g s) (hl : s.b.length ≤ 1000000000) :
    Calls Try.prog 78 #[.pointer (some ⟨g, 0, none⟩), .func (.func 75) #[.pointer (some ⟨g, 0, none⟩)] #[]] W fun e W' => ∃ v, e = .returned v ∧ kcol.R 32 W' W.heap.size (fun _ => True) v (rlist rcol s).1 ∧ Rd W' g (rlist rcol s).2 ∧ Fr (Only g) W W' := by
  have H := Aside0.mk h
  have HL := Aside0.mk h.lt
  obtain ⟨n, hn⟩ : ∃ n, (rnum s).1 = n := ⟨_, rfl⟩
  obtain ⟨⟨b1, bad1⟩, hs1⟩ : ∃ s1, (rnum s).2 = s1 := ⟨_, rfl⟩
  have hb1 := rnum_b s
  rw [hs1] at hb1
  simp only at hb1
  obtain ⟨bd, hbd⟩ : ∃ bd, (bad1 || decide (n < 0) || decide (4096 < n)) = bd := ⟨_, rfl⟩
  obtain ⟨R, hR⟩ : ∃ R, rlist rcol s = R := ⟨_, rfl⟩
  have HR := Aside0.mk (show rloop rcol n.toNat [] ⟨b1, bd⟩ = R by rw [← hR]; unfold rlist; rw [hn, hs1, hbd])
  rw [hR]
  have HBd := Aside0.mk hbd
  have HN := Aside0.mk hn
  have HS := Aside0.mk hs1
  have HNR := Aside0.mk (show n ≤ 9223372036854775807 from by rw [← hn]; exact (toI_range _).2)
  clear h hn hs1 hbd hR
  go_enter Try.func78, Try.ntmps78
  go_upto_region 2 with (go_at_call 103; refine (rnum_walk _ g s H.out hl).mono ?_; rw [HN.out, HS.out]; rintro e w1 ⟨rfl, h1, hf1⟩; have x1 : w1.cell? ⟨g, 1, none⟩ = some (.bool bad1) := (blk_cell h1 1).trans rfl; have f1 : w1.frozen? ⟨g, 1, none⟩ = false := blk_frozen h1 1; have H1 := Aside0.mk h1; have F1 := Aside0.mk hf1; clear h1 hf1)
  have HP := Aside0.mk (fun x : Bool => (show Rd (w1.setCell ⟨g, 1, none⟩ (.bool x)) g ⟨b1, x⟩ from blk_put H1.out 1 (.bool x) rfl))
  have HW := Aside0.mk (fun x : Bool => (show Fr (Only g) W (w1.setCell ⟨g, 1, none⟩ (.bool x)) from F1.out.trans (fr_set w1 g 1 (.bool x))))
  go_cut [5] (fun v5 wd => v5 = .int .i64 n ∧ Aside0 (Rd wd g ⟨b1, bd⟩) ∧ Aside0 (Fr (Only g) W wd))
  case first =>
    cases bad1 with
    | true =>
      obtain rfl : bd = true := by rw [← HBd.out]; rfl
      go_wp2_with fail
      go_meet
      exact ⟨rfl, ⟨HP.out true⟩, ⟨HW.out true⟩⟩
    | false =>
      by_cases h0 : n < 0
      · obtain rfl : bd = true := by rw [← HBd.out]; simp [h0]
        go_wp2_with fail
        go_meet
        exact ⟨rfl, ⟨HP.out true⟩, ⟨HW.out true⟩⟩
      · by_cases h4 : 4096 < n
        · obtain rfl : bd = true := by rw [← HBd.out]; simp [h4]
          go_wp2_with fail
          go_meet
          exact ⟨rfl, ⟨HP.out true⟩, ⟨HW.out true⟩⟩
        · obtain rfl : bd = false := by rw [← HBd.out]; simp [h0, h4]
          go_wp2_with fail
          go_meet
          exact ⟨rfl, ⟨HP.out false⟩, ⟨HW.out false⟩⟩
  case rest =>
  obtain ⟨rfl, HR0, HF0⟩ := hcut
  clear x1 f1 H1 F1 HP HW
  have hn4 : bd = false → n ≤ 4096 := fun hb => by have h := HBd.out; rw [hb] at h; simp at h; omega
  have HN4 := Aside0.mk hn4
  clear hn4 HBd
  go_wp2_with fail
  go_loopg [5, 6] (n.toNat + 2) (fun kq v5 v6 w' => ∃ (m : Int) (acc : List Col) (s2 : RS), v5 = .int .i64 m ∧ Aside0 (kq = m.toNat + 2 ∧ m ≤ 9223372036854775807 ∧ acc.length + m.toNat ≤ n.toNat ∧ (s2.bad = false → n ≤ 4096) ∧ s2.b.length ≤ s.b.length) ∧ Aside0 (rloop rcol m.toNat acc s2 = R) ∧ Aside0 (kcol.R 32 w' W.heap.size (fun _ => True) v6 acc) ∧ Aside0 (Rd w' g s2) ∧ Aside0 (Fr (Only g) W w'))
  case atStart => exact ⟨n, [], ⟨b1, bd⟩, rfl, ⟨rfl, HNR.out, by simp, HN4.out, hb1⟩, HR, ⟨Kd.R_nil _ _ _ _ _⟩, HR0, HF0⟩
  case round =>
    clear HR HR0 HF0
    obtain ⟨m, acc, ⟨b2, bad2⟩, rfl, HJ, HR, HA, HRd, HF⟩ := hrel
    have x1 : wr.cell? ⟨g, 1, none⟩ = some (.bool bad2) := (blk_cell HRd.out 1).trans rfl
    have hws := HF.out.size
    by_cases hm : 0 < m
    · obtain ⟨k1, hk1⟩ : ∃ k1, m.toNat = k1 + 1 := ⟨m.toNat - 1, by omega⟩
      have hR := HR.out
      rw [hk1] at hR
      cases bad2 with
      | true =>
        have hR2 : (acc, (⟨b2, true⟩ : RS)) = R := by rw [← hR]; rfl
        obtain rfl := hR2
        clear hR
        go_wp2_with fail
        go_ret
        exact ⟨_, rfl, HA.out, HRd.out, HF.out⟩
      | false =>
        have hR2 : rloop rcol k1 (acc ++ [(rcol ⟨b2, false⟩).1]) (rcol ⟨b2, false⟩).2 = R := by rw [← hR]; rfl
        have HR2 := Aside0.mk hR2
        have HK1 := Aside0.mk hk1
        have hb := rcol_b ⟨b2, false⟩
        obtain ⟨x, hx⟩ : ∃ x, (rcol ⟨b2, false⟩).1 = x := ⟨_, rfl⟩
        obtain ⟨s3, hs3⟩ : ∃ s3, (rcol ⟨b2, false⟩).2 = s3 := ⟨_, rfl⟩
        have HX := Aside0.mk hx
        have HS3 := Aside0.mk hs3
        have HB3 := Aside0.mk hb
        clear hR hR2 hk1 hb hx hs3
        obtain ⟨kq1, rfl⟩ : ∃ kq1, gk = kq1 + 1 := ⟨gk - 1, by have := HJ.out; omega⟩
        go_wp2_with fail
        refine (rcol_walk wr g ⟨b2, false⟩ HRd.out (Nat.le_trans HJ.out.2.2.2.2 hl)).mono ?_
        rw [HX.out, HS3.out]
        rintro e w3 ⟨rfl, h3, hf3⟩
        have HA3 := Aside0.mk (R_only HA.out hf3 HL.out)
        have H3 := Aside0.mk h3
        have F3 := Aside0.mk (HF.out.trans hf3)
        have hw3 : W.heap.size ≤ w3.heap.size := F3.out.size
        clear h3 hf3 x1
        have hmw : wrap64 (m - 1) = m - 1 := by have := HJ.out.2.1; unfold wrap64; omega
        have hn6 : n ≤ 4096 := HJ.out.2.2.2.1 (by first | rfl | trivial)
        go_wp2_with ((with_reducible refine gate_builtin (b := .append) (xs := #[.tmp 35, .tmp 38]) rfl ?_); at_builtin; refine Kd.R_append kcol (w0 := w3) W.heap.size rfl (.tmp 35) (.tmp 38) 27 32 (.agg #[.string ⟨#[]⟩, .int .i64 0]) 24 rfl Try.underlying27 info32 rfl (show 0 < 2 from by decide) (by decide) _ acc x [.string x.nm, .int .i64 x.kd] (fun _ => True) (fun _ => False) rfl rfl (kcol_M.2 rfl) (fun _ h => h.elim) (fun _ _ => trivial) HA3.out (Below.refl _ _) hw3 (by have h1 := HJ.out.2.2.1; have h2 := HJ.out.2.2.2.1 (by first | rfl | trivial); omega) ?_; intro v4 w4 hr4 hb4 hg4 hat4; have HA4 := Aside0.mk hr4; have H4 := Aside0.mk (rd_low H3.out hb4 HL.out); have F4 := Aside0.mk (fr_low F3.out hb4); clear hr4 hb4 hg4 hat4)
        go_roundg kq1
        case measure => omega
        case rel => exact ⟨m - 1, acc ++ [x], s3, by go_num, ⟨by have h1 := HJ.out.1; have h2 := HK1.out; omega, by have := HJ.out.2.1; omega, by have h1 := HJ.out.2.2.1; have h2 := HK1.out; rw [List.length_append]; simp only [List.length_singleton]; omega, fun _ => hn6, by have h1 := HJ.out.2.2.2.2; have h2 := HB3.out; rw [HS3.out] at h2; exact Nat.le_trans h2 h1⟩, ⟨by have h2 := HK1.out; rw [show (m - 1).toNat = k1 by omega, ← HX.out, ← HS3.out]; exact HR2.out⟩, HA4, H4, F4⟩
    · have hR2 : (acc, (⟨b2, bad2⟩ : RS)) = R := by rw [← HR.out, show m.toNat = 0 by omega]; rfl
      obtain rfl := hR2
      go_wp2_with fail
      go_ret
      exact ⟨_, rfl, HA.out, HRd.out, HF.out⟩
end Go.Proofs.Ytjehbnhjaogfkaa.Sc
