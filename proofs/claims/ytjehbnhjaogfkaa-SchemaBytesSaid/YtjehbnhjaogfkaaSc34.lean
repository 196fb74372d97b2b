import Derived.Test.YtjehbnhjaogfkaaSc33
namespace Go.Proofs.Ytjehbnhjaogfkaa.Sc
open Go.RowKit Go.Lib Go.Maps Go.WideAt Go.WideShapes Go.Proofs.YtjehbnhjaogfkaaW.PrintWords Go.Proofs.YtjehbnhjaogfkaaW.PrintLast Go.Proofs.YtjehbnhjaogfkaaW.PrintMore
open Go.Proofs.Ytjehbnhjaogfkaa
set_option linter.unusedVariables false
set_option linter.unusedSimpArgs false
theorem rloop_b {α : Type} {each : RS → α × RS} (he : ∀ s, (each s).2.b.length ≤ s.b.length) : ∀ (k : Nat) (acc : List α) (s : RS), (rloop each k acc s).2.b.length ≤ s.b.length
  | 0, _, _ => Nat.le_refl _
  | k + 1, acc, s => by
    rw [rloop]
    split
    · exact Nat.le_refl _
    · exact Nat.le_trans (rloop_b he k _ _) (he s)
theorem rlist_b {α : Type} {each : RS → α × RS} (he : ∀ s, (each s).2.b.length ≤ s.b.length) (s : RS) : (rlist each s).2.b.length ≤ s.b.length := Nat.le_trans (rloop_b he _ _ _) (rnum_b s)
def rfl' (s : RS) : Bool × RS := if s.bad then (false, s) else rflag s
theorem rfl'_b (s : RS) : (rfl' s).2.b.length ≤ s.b.length := by
  unfold rfl'
  split
  · exact Nat.le_refl _
  · exact rflag_b s
def rix (s : RS) : Ix × RS :=
  (⟨str (rtext s).1, (rlist rnum (rtext s).2).1, (rfl' (rlist rnum (rtext s).2).2).1⟩, (rfl' (rlist rnum (rtext s).2).2).2)
theorem rix_b (s : RS) : (rix s).2.b.length ≤ s.b.length := Nat.le_trans (rfl'_b _) (Nat.le_trans (rlist_b rnum_b _) (rtext_b s))
set_option maxRecDepth 100000 in
set_option maxHeartbeats 4000000 in
theorem rix_walk (W : World) (g : Nat) (s : RS) (h : Rd W g s) (hl : s.b.length ≤ 1000000000) :
    Calls Try.prog 76 #[.pointer (some ⟨g, 0, none⟩)] W fun e W' => ∃ A c, e = .returned (.agg #[.string (rix s).1.nm, .slice A (rix s).1.cols.length c, .bool (rix s).1.uq]) ∧ (Kd.int .i64).R 3 W' W.heap.size (fun _ => True) (.slice A (rix s).1.cols.length c) (rix s).1.cols ∧ Rd W' g (rix s).2 ∧ Fr (Only g) W W' := by
  obtain ⟨q, hq⟩ : ∃ q, W.heap.size = q := ⟨_, rfl⟩
  have hgq : g ≠ q := by have := h.lt; omega
  have H := Aside0.mk (h.below (below_alloc (Below.refl _ W) (.cells #[.string ⟨#[]⟩, .slice none 0 0, .bool false] 67)))
  have HF := Aside0.mk ((Fr.refl (Only g) W).alloc (.cells #[.string ⟨#[]⟩, .slice none 0 0, .bool false] 67))
  have HBx := Aside0.mk (show (W.alloc (.cells #[.string ⟨#[]⟩, .slice none 0 0, .bool false] 67)).heap[q]? = some (.cells #[.string ⟨#[]⟩, .slice none 0 0, .bool false] 67 (0, 0)) from hq ▸ heap_alloc_new W _)
  have HQ := Aside0.mk hq
  have HGl := Aside0.mk h.lt
  obtain ⟨nm, hnm⟩ : ∃ nm, (rtext s).1 = nm := ⟨_, rfl⟩
  obtain ⟨s1, hs1⟩ : ∃ s1, (rtext s).2 = s1 := ⟨_, rfl⟩
  have hb1 := rtext_b s
  rw [hs1] at hb1
  obtain ⟨cols, hcl⟩ : ∃ cols, (rlist rnum s1).1 = cols := ⟨_, rfl⟩
  obtain ⟨s2, hs2⟩ : ∃ s2, (rlist rnum s1).2 = s2 := ⟨_, rfl⟩
  have hb2 := rlist_b rnum_b s1
  rw [hs2] at hb2
  obtain ⟨u, hu⟩ : ∃ u, (rfl' s2).1 = u := ⟨_, rfl⟩
  obtain ⟨s3, hs3⟩ : ∃ s3, (rfl' s2).2 = s3 := ⟨_, rfl⟩
  have hE : rix s = (⟨str nm, cols, u⟩, s3) := by unfold rix; rw [hnm, hs1, hcl, hs2, hu, hs3]
  rw [hE]
  have HN := Aside0.mk hnm
  have HS1 := Aside0.mk hs1
  have HCl := Aside0.mk hcl
  have HS2 := Aside0.mk hs2
  have HU := Aside0.mk hu
  have HS3 := Aside0.mk hs3
  clear h hnm hs1 hcl hs2 hu hs3 hE
  go_enter Try.func76, Try.ntmps76
  go_wp2_with fail
  clear hq
  have HL := Aside0.mk (blk_lt HBx.out)
  generalize W.alloc (.cells #[.string ⟨#[]⟩, .slice none 0 0, .bool false] 67) = w0 at *
  refine (rtext_walk w0 g s H.out hl).mono ?_
  rw [HN.out, HS1.out]
  rintro e w1 ⟨rfl, h1, hf1⟩
  have hb2' : w1.heap[q]? = some (.cells #[.string ⟨#[]⟩, .slice none 0 0, .bool false] 67 (0, 0)) := (hf1.block q HL.out fun e => hgq e.symm).trans HBx.out
  have c0 := (blk_cell hb2' 0).trans (show _ = some (Value.string ⟨#[]⟩) from rfl)
  have f0 := blk_frozen hb2' 0
  have H1 := Aside0.mk (h1.far (p := ⟨q, 0, none⟩) (fun e => hgq e.symm) (.string (str nm)))
  have HB1 := Aside0.mk (show (w1.setCell ⟨q, 0, none⟩ (.string (str nm))).heap[q]? = some (.cells #[.string (str nm), .slice none 0 0, .bool false] 67 (0, 0)) from blk_put hb2' 0 _ rfl)
  have HF1 := Aside0.mk ((HF.out.trans hf1).set (p := ⟨q, 0, none⟩) (.inr (Nat.le_of_eq HQ.out)) (.string (str nm)))
  clear h1 hf1 hb2'
  go_wp2_with fail
  clear c0 f0
  generalize w1.setCell ⟨q, 0, none⟩ (.string (str nm)) = w2 at *
  refine (rlistN_walk w2 g s1 H1.out (by omega)).mono ?_
  rw [HCl.out, HS2.out]
  rintro e w3 ⟨v1, rfl, hr3, h3, hf3⟩
  obtain ⟨A, c, rfl⟩ := Kd.R_slice hr3
  have hq2 := blk_lt HB1.out
  have hb4 : w3.heap[q]? = some (.cells #[.string (str nm), .slice none 0 0, .bool false] 67 (0, 0)) := (hf3.block q hq2 fun e => hgq e.symm).trans HB1.out
  have c1 := (blk_cell hb4 1).trans (show _ = some (Value.slice none 0 0) from rfl)
  have f1 := blk_frozen hb4 1
  have hb5 : (w3.setCell ⟨q, 1, none⟩ (.slice A cols.length c)).heap[q]? = some (.cells #[.string (str nm), .slice A cols.length c, .bool false] 67 (0, 0)) := blk_put hb4 1 _ rfl
  have HB5 := Aside0.mk hb5
  have hgx : g ≠ q := hgq
  have H5 := Aside0.mk (h3.far (p := ⟨q, 1, none⟩) (fun e => hgq e.symm) (.slice A cols.length c))
  have hle : W.heap.size ≤ q := Nat.le_of_eq HQ.out
  have HF5 := Aside0.mk ((HF1.out.trans hf3).set (p := ⟨q, 1, none⟩) (.inr hle) (.slice A cols.length c))
  have HR5 := Aside0.mk (Kd.R_mono (Kd.R_far (ok := fun k => q + 1 ≤ k) (Kd.R_mono (Kd.R_bound hr3) fun k hk => by have := hk.2.1; omega) (p := ⟨q, 1, none⟩) (fun k hk => by simp; omega) (.slice A cols.length c)) (ok' := fun k => q + 1 ≤ k) (fun k hk => hk))
  have HW3 := Aside0.mk (show W.heap.size ≤ w2.heap.size by omega)
  clear h3 hf3 hb4 hb5 hr3
  go_upto_region 4 with fail
  clear c1 f1
  generalize w3.setCell ⟨q, 1, none⟩ (.slice A cols.length c) = w5 at *
  obtain ⟨b2, bad2⟩ := s2
  cases bad2 with
  | true =>
    have x1 : w5.cell? ⟨g, 1, none⟩ = some (.bool true) := (blk_cell H5.out 1).trans rfl
    obtain rfl : u = false := by rw [← HU.out]; rfl
    obtain rfl : s3 = ⟨b2, true⟩ := by rw [← HS3.out]; rfl
    have HBq := HB5
    have HRd := H5
    have HFr := HF5
    have HRr := HR5
    have c0 := (blk_cell HBq.out 0).trans (show _ = some (Value.string (str nm)) from rfl)
    have c1 := (blk_cell HBq.out 1).trans (show _ = some (Value.slice A cols.length c) from rfl)
    have c2 := (blk_cell HBq.out 2).trans (show _ = some (Value.bool false) from rfl)
    have f0 := blk_frozen HBq.out 0
    have f1 := blk_frozen HBq.out 1
    have f2 := blk_frozen HBq.out 2
    have hz1 : (w5.setCell ⟨q, 2, none⟩ (.bool false)).heap[q]? = some (.cells #[.string (str nm), .slice A cols.length c, .bool false] 67 (0, 0)) := blk_put HBq.out 2 _ rfl
    have hz2 : ((w5.setCell ⟨q, 2, none⟩ (.bool false)).setCell ⟨q, 0, none⟩ (.string (str nm))).heap[q]? = some (.cells #[.string (str nm), .slice A cols.length c, .bool false] 67 (0, 0)) := blk_put hz1 0 _ rfl
    have hz3 : (((w5.setCell ⟨q, 2, none⟩ (.bool false)).setCell ⟨q, 0, none⟩ (.string (str nm))).setCell ⟨q, 1, none⟩ (.slice A cols.length c)).heap[q]? = some (.cells #[.string (str nm), .slice A cols.length c, .bool false] 67 (0, 0)) := blk_put hz2 1 _ rfl
    have hz4 : ((((w5.setCell ⟨q, 2, none⟩ (.bool false)).setCell ⟨q, 0, none⟩ (.string (str nm))).setCell ⟨q, 1, none⟩ (.slice A cols.length c)).setCell ⟨q, 2, none⟩ (.bool false)).heap[q]? = some (.cells #[.string (str nm), .slice A cols.length c, .bool false] 67 (0, 0)) := blk_put hz3 2 _ rfl
    have HZ := Aside0.mk hz4
    have hne : ∀ k, q + 1 ≤ k → k ≠ q := fun k hk => by omega
    have HRd' := Aside0.mk ((((HRd.out.far (p := ⟨q, 2, none⟩) (fun e => hgq e.symm) (.bool false)).far (p := ⟨q, 0, none⟩) (fun e => hgq e.symm) (.string (str nm))).far (p := ⟨q, 1, none⟩) (fun e => hgq e.symm) (.slice A cols.length c)).far (p := ⟨q, 2, none⟩) (fun e => hgq e.symm) (.bool false))
    have HFr' := Aside0.mk ((((HFr.out.set (p := ⟨q, 2, none⟩) (.inr hle) (.bool false)).set (p := ⟨q, 0, none⟩) (.inr hle) (.string (str nm))).set (p := ⟨q, 1, none⟩) (.inr hle) (.slice A cols.length c)).set (p := ⟨q, 2, none⟩) (.inr hle) (.bool false))
    have HRr' := Aside0.mk (Kd.R_far (Kd.R_far (Kd.R_far (Kd.R_far HRr.out (p := ⟨q, 2, none⟩) hne (.bool false)) (p := ⟨q, 0, none⟩) hne (.string (str nm))) (p := ⟨q, 1, none⟩) hne (.slice A cols.length c)) (p := ⟨q, 2, none⟩) hne (.bool false))
    clear hz1 hz2 hz3 hz4 hne
    go_wp2_with fail
    clear c0 c1 c2 f0 f1 f2
    generalize ((((w5.setCell ⟨q, 2, none⟩ (.bool false)).setCell ⟨q, 0, none⟩ (.string (str nm))).setCell ⟨q, 1, none⟩ (.slice A cols.length c)).setCell ⟨q, 2, none⟩ (.bool false)) = w9 at *
    have z0 := (blk_cell HZ.out 0).trans (show _ = some (Value.string (str nm)) from rfl)
    have z1 := (blk_cell HZ.out 1).trans (show _ = some (Value.slice A cols.length c) from rfl)
    have z2 := (blk_cell HZ.out 2).trans (show _ = some (Value.bool false) from rfl)
    refine bodyPost_ret (v := .agg #[.string (str nm), .slice A cols.length c, .bool false]) (by first | (go_simp; done) | (simp [results, Try.f76, go_sem, z0, z1, z2]; done) | (simp [results, Try.f76, go_sem, z0, z1, z2]; rfl)) rfl ?_
    exact ⟨A, c, rfl, Kd.R_mono (Kd.R_lower HRr'.out HW3.out) (fun _ _ => trivial), HRd'.out, HFr'.out⟩
  | false =>
    have x1 : w5.cell? ⟨g, 1, none⟩ = some (.bool false) := (blk_cell H5.out 1).trans rfl
    have hu : (rflag ⟨b2, false⟩).1 = u := HU.out
    have hs3 : (rflag ⟨b2, false⟩).2 = s3 := HS3.out
    have HU2 := Aside0.mk hu
    have HS32 := Aside0.mk hs3
    have hb2l : b2.length ≤ s1.b.length := hb2
    clear hu hs3
    go_wp2_with fail
    refine (rflag_walk w5 g ⟨b2, false⟩ H5.out (by show b2.length ≤ _; omega)).mono ?_
    rw [HU2.out, HS32.out]
    rintro e w7 ⟨rfl, h7, hf7⟩
    have HBq := Aside0.mk ((hf7.block q (blk_lt HB5.out) fun e => hgq e.symm).trans HB5.out)
    have HRd := Aside0.mk h7
    have HFr := Aside0.mk (HF5.out.trans hf7)
    have HRr := Aside0.mk (Kd.R_mono (Kd.R_move (Kd.R_bound HR5.out) fun k hk => hf7.block k hk.2.2.1 fun e => by have := hk.1; have := HGl.out; unfold Only at e; omega) fun k hk => hk.1)
    clear h7 hf7 x1
    have c0 := (blk_cell HBq.out 0).trans (show _ = some (Value.string (str nm)) from rfl)
    have c1 := (blk_cell HBq.out 1).trans (show _ = some (Value.slice A cols.length c) from rfl)
    have c2 := (blk_cell HBq.out 2).trans (show _ = some (Value.bool false) from rfl)
    have f0 := blk_frozen HBq.out 0
    have f1 := blk_frozen HBq.out 1
    have f2 := blk_frozen HBq.out 2
    have hz1 : (w7.setCell ⟨q, 2, none⟩ (.bool u)).heap[q]? = some (.cells #[.string (str nm), .slice A cols.length c, .bool u] 67 (0, 0)) := blk_put HBq.out 2 _ rfl
    have hz2 : ((w7.setCell ⟨q, 2, none⟩ (.bool u)).setCell ⟨q, 0, none⟩ (.string (str nm))).heap[q]? = some (.cells #[.string (str nm), .slice A cols.length c, .bool u] 67 (0, 0)) := blk_put hz1 0 _ rfl
    have hz3 : (((w7.setCell ⟨q, 2, none⟩ (.bool u)).setCell ⟨q, 0, none⟩ (.string (str nm))).setCell ⟨q, 1, none⟩ (.slice A cols.length c)).heap[q]? = some (.cells #[.string (str nm), .slice A cols.length c, .bool u] 67 (0, 0)) := blk_put hz2 1 _ rfl
    have hz4 : ((((w7.setCell ⟨q, 2, none⟩ (.bool u)).setCell ⟨q, 0, none⟩ (.string (str nm))).setCell ⟨q, 1, none⟩ (.slice A cols.length c)).setCell ⟨q, 2, none⟩ (.bool u)).heap[q]? = some (.cells #[.string (str nm), .slice A cols.length c, .bool u] 67 (0, 0)) := blk_put hz3 2 _ rfl
    have HZ := Aside0.mk hz4
    have hne : ∀ k, q + 1 ≤ k → k ≠ q := fun k hk => by omega
    have HRd' := Aside0.mk ((((HRd.out.far (p := ⟨q, 2, none⟩) (fun e => hgq e.symm) (.bool u)).far (p := ⟨q, 0, none⟩) (fun e => hgq e.symm) (.string (str nm))).far (p := ⟨q, 1, none⟩) (fun e => hgq e.symm) (.slice A cols.length c)).far (p := ⟨q, 2, none⟩) (fun e => hgq e.symm) (.bool u))
    have HFr' := Aside0.mk ((((HFr.out.set (p := ⟨q, 2, none⟩) (.inr hle) (.bool u)).set (p := ⟨q, 0, none⟩) (.inr hle) (.string (str nm))).set (p := ⟨q, 1, none⟩) (.inr hle) (.slice A cols.length c)).set (p := ⟨q, 2, none⟩) (.inr hle) (.bool u))
    have HRr' := Aside0.mk (Kd.R_far (Kd.R_far (Kd.R_far (Kd.R_far HRr.out (p := ⟨q, 2, none⟩) hne (.bool u)) (p := ⟨q, 0, none⟩) hne (.string (str nm))) (p := ⟨q, 1, none⟩) hne (.slice A cols.length c)) (p := ⟨q, 2, none⟩) hne (.bool u))
    clear hz1 hz2 hz3 hz4 hne
    go_wp2_with fail
    clear c0 c1 c2 f0 f1 f2
    generalize ((((w7.setCell ⟨q, 2, none⟩ (.bool u)).setCell ⟨q, 0, none⟩ (.string (str nm))).setCell ⟨q, 1, none⟩ (.slice A cols.length c)).setCell ⟨q, 2, none⟩ (.bool u)) = w9 at *
    have z0 := (blk_cell HZ.out 0).trans (show _ = some (Value.string (str nm)) from rfl)
    have z1 := (blk_cell HZ.out 1).trans (show _ = some (Value.slice A cols.length c) from rfl)
    have z2 := (blk_cell HZ.out 2).trans (show _ = some (Value.bool u) from rfl)
    refine bodyPost_ret (v := .agg #[.string (str nm), .slice A cols.length c, .bool u]) (by first | (go_simp; done) | (simp [results, Try.f76, go_sem, z0, z1, z2]; done) | (simp [results, Try.f76, go_sem, z0, z1, z2]; rfl)) rfl ?_
    exact ⟨A, c, rfl, Kd.R_mono (Kd.R_lower HRr'.out HW3.out) (fun _ _ => trivial), HRd'.out, HFr'.out⟩
end Go.Proofs.Ytjehbnhjaogfkaa.Sc
