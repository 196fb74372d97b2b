import Derived.Test.YtjehbnhjaogfkaaSc35
namespace Go.Proofs.Ytjehbnhjaogfkaa.Sc
open Go.RowKit Go.Lib Go.Maps Go.WideAt Go.WideShapes Go.Proofs.YtjehbnhjaogfkaaW.PrintWords Go.Proofs.YtjehbnhjaogfkaaW.PrintLast Go.Proofs.YtjehbnhjaogfkaaW.PrintMore
open Go.Proofs.Ytjehbnhjaogfkaa
set_option linter.unusedVariables false
set_option linter.unusedSimpArgs false
def rtab (s : RS) : Tb × RS :=
  let c := rlist rcol (rtext s).2
  let k := rnum c.2
  let x := rlist rix k.2
  (⟨str (rtext s).1, c.1, k.1, x.1⟩, x.2)
theorem rtab_b (s : RS) : (rtab s).2.b.length ≤ s.b.length := Nat.le_trans (rlist_b rix_b _) (Nat.le_trans (rnum_b _) (Nat.le_trans (rlist_b rcol_b _) (rtext_b s)))
/-- A row of the call's own, above q, lives on. -/
theorem R_up {α : Type} {d : Kd α} {e q g : Nat} {w w1 : World} {v : Value} {xs : List α} (h : d.R e w (q + 1) (fun k => q + 1 ≤ k) v xs) (hf : Fr (Only g) w w1) (hg : g < q + 1) : d.R e w1 (q + 1) (fun k => q + 1 ≤ k) v xs :=
  Kd.R_mono (Kd.R_move (Kd.R_bound h) fun k hk => hf.block k hk.2.2.1 fun e => by have := hk.1; unfold Only at e; omega) fun k hk => hk.1
theorem R_at {α : Type} {d : Kd α} {e q : Nat} {w : World} {v : Value} {xs : List α} (h : d.R e w (q + 1) (fun k => q + 1 ≤ k) v xs) (i : Nat) (u : Value) : d.R e (w.setCell ⟨q, i, none⟩ u) (q + 1) (fun k => q + 1 ≤ k) v xs := Kd.R_far h (p := ⟨q, i, none⟩) (fun k hk => by simp; omega) u
theorem R_in {α : Type} {d : Kd α} {e q base : Nat} {w : World} {v : Value} {xs : List α} (h : d.R e w base (fun _ => True) v xs) (hb : q + 1 ≤ base) : d.R e w (q + 1) (fun k => q + 1 ≤ k) v xs :=
  Kd.R_lower (Kd.R_mono (Kd.R_bound h) fun k hk => by have := hk.2.1; omega) hb
set_option maxRecDepth 100000 in
set_option maxHeartbeats 8000000 in
theorem rtab_walk (W : World) (g : Nat) (s : RS) (h : Rd W g s) (hl : s.b.length ≤ 1000000000) :
    Calls Try.prog 53 #[.pointer (some ⟨g, 0, none⟩)] W fun e W' => ∃ v, e = .returned v ∧ OwnTb (fun _ => True) W.heap.size W' v (rtab s).1 ∧ Rd W' g (rtab s).2 ∧ Fr (Only g) W W' := by
  obtain ⟨q, hq⟩ : ∃ q, W.heap.size = q := ⟨_, rfl⟩
  have hgq : g < q := by have := h.lt; omega
  have H := Aside0.mk (h.below (below_alloc (Below.refl _ W) (.cells #[.string ⟨#[]⟩, .slice none 0 0, .int .i64 0, .slice none 0 0] 30)))
  have HF := Aside0.mk ((Fr.refl (Only g) W).alloc (.cells #[.string ⟨#[]⟩, .slice none 0 0, .int .i64 0, .slice none 0 0] 30))
  have HX := Aside0.mk (show TbBox (W.alloc (.cells #[.string ⟨#[]⟩, .slice none 0 0, .int .i64 0, .slice none 0 0] 30)) q (.string ⟨#[]⟩) (.slice none 0 0) (.int .i64 0) (.slice none 0 0) from hq ▸ tbBox_made W _ _ _ _ _)
  have hle : W.heap.size ≤ q := Nat.le_of_eq hq
  have HQ := Aside0.mk hq
  obtain ⟨nm, hnm⟩ : ∃ nm, (rtext s).1 = nm := ⟨_, rfl⟩
  obtain ⟨s1, hs1⟩ : ∃ s1, (rtext s).2 = s1 := ⟨_, rfl⟩
  have hb1 := rtext_b s
  rw [hs1] at hb1
  obtain ⟨cols, hcl⟩ : ∃ cols, (rlist rcol s1).1 = cols := ⟨_, rfl⟩
  obtain ⟨s2, hs2⟩ : ∃ s2, (rlist rcol s1).2 = s2 := ⟨_, rfl⟩
  have hb2 := rlist_b rcol_b s1
  rw [hs2] at hb2
  obtain ⟨ky, hky⟩ : ∃ ky, (rnum s2).1 = ky := ⟨_, rfl⟩
  obtain ⟨s3, hs3⟩ : ∃ s3, (rnum s2).2 = s3 := ⟨_, rfl⟩
  have hb3 := rnum_b s2
  rw [hs3] at hb3
  obtain ⟨ixs, hix⟩ : ∃ ixs, (rlist rix s3).1 = ixs := ⟨_, rfl⟩
  obtain ⟨s4, hs4⟩ : ∃ s4, (rlist rix s3).2 = s4 := ⟨_, rfl⟩
  have hE : rtab s = (⟨str nm, cols, ky, ixs⟩, s4) := by unfold rtab; simp only; rw [hnm, hs1, hcl, hs2, hky, hs3, hix, hs4]
  rw [hE]
  have HN := Aside0.mk hnm
  have HS1 := Aside0.mk hs1
  have HCl := Aside0.mk hcl
  have HS2 := Aside0.mk hs2
  have HKy := Aside0.mk hky
  have HS3 := Aside0.mk hs3
  have HIx := Aside0.mk hix
  have HS4 := Aside0.mk hs4
  clear h hnm hs1 hcl hs2 hky hs3 hix hs4 hE
  go_enter Try.func53, Try.ntmps53
  go_wp2_with fail
  clear hq
  have hsz0 := HX.out.lt
  generalize W.alloc (.cells #[.string ⟨#[]⟩, .slice none 0 0, .int .i64 0, .slice none 0 0] 30) = w0 at *
  refine (rtext_walk w0 g s H.out hl).mono ?_
  rw [HN.out, HS1.out]
  rintro e w1 ⟨rfl, h1, hf1⟩
  have hx1 := HX.out.fr hf1 (fun e => by unfold Only at e; omega)
  have c0 := hx1.c0
  have f0 := hx1.fz 0
  have HX1 := Aside0.mk (hx1.set0 (.string (str nm)))
  have H1 := Aside0.mk (h1.far (p := ⟨q, 0, none⟩) (fun e => by simp at e; omega) (.string (str nm)))
  have HF1 := Aside0.mk ((HF.out.trans hf1).set (p := ⟨q, 0, none⟩) (.inr hle) (.string (str nm)))
  clear h1 hf1 hx1
  go_wp2_with fail
  clear c0 f0
  generalize w1.setCell ⟨q, 0, none⟩ (.string (str nm)) = w2 at *
  have hsz2 := HX1.out.lt
  refine (rlistC_walk w2 g s1 H1.out (by omega)).mono ?_
  rw [HCl.out, HS2.out]
  rintro e w3 ⟨v1, rfl, hr3, h3, hf3⟩
  obtain ⟨A, c, rfl⟩ := Kd.R_slice hr3
  have hx3 := HX1.out.fr hf3 (fun e => by unfold Only at e; omega)
  have c1 := hx3.c1
  have f1 := hx3.fz 1
  have HX3 := Aside0.mk (hx3.set1 (.slice A cols.length c))
  have H3 := Aside0.mk (h3.far (p := ⟨q, 1, none⟩) (fun e => by simp at e; omega) (.slice A cols.length c))
  have HF3 := Aside0.mk ((HF1.out.trans hf3).set (p := ⟨q, 1, none⟩) (.inr hle) (.slice A cols.length c))
  have HR3 := Aside0.mk (R_at (R_in hr3 hsz2) 1 (.slice A cols.length c))
  clear h3 hf3 hx3 hr3
  go_wp2_with fail
  clear c1 f1
  generalize w3.setCell ⟨q, 1, none⟩ (.slice A cols.length c) = w4 at *
  refine (rplace_walk w4 g s2 H3.out (by omega)).mono ?_
  rw [HKy.out, HS3.out]
  rintro e w5 ⟨rfl, h5, hf5⟩
  have hx5 := HX3.out.fr hf5 (fun e => by unfold Only at e; omega)
  have c2 := hx5.c2
  have f2 := hx5.fz 2
  have HX5 := Aside0.mk (hx5.set2 (.int .i64 ky))
  have H5 := Aside0.mk (h5.far (p := ⟨q, 2, none⟩) (fun e => by simp at e; omega) (.int .i64 ky))
  have HF5 := Aside0.mk ((HF3.out.trans hf5).set (p := ⟨q, 2, none⟩) (.inr hle) (.int .i64 ky))
  have HR5 := Aside0.mk (R_at (R_up HR3.out hf5 (by omega)) 2 (.int .i64 ky))
  clear h5 hf5 hx5
  go_wp2_with fail
  clear c2 f2
  generalize w5.setCell ⟨q, 2, none⟩ (.int .i64 ky) = w6 at *
  have hsz6 := HX5.out.lt
  refine (rlistX_walk w6 g s3 H5.out (by omega)).mono ?_
  rw [HIx.out, HS4.out]
  rintro e w7 ⟨v3, rfl, hr7, h7, hf7⟩
  obtain ⟨B, d, rfl⟩ := Kd.R_slice hr7
  have hx7 := HX5.out.fr hf7 (fun e => by unfold Only at e; omega)
  have c0 := hx7.c0
  have c1 := hx7.c1
  have c2 := hx7.c2
  have c3 := hx7.c3
  have f0 := hx7.fz 0
  have f1 := hx7.fz 1
  have f2 := hx7.fz 2
  have f3 := hx7.fz 3
  have HX8 := Aside0.mk (((((hx7.set3 (.slice B ixs.length d)).set0 (.string (str nm))).set1 (.slice A cols.length c)).set2 (.int .i64 ky)).set3 (.slice B ixs.length d))
  have H8 := Aside0.mk (((((h7.far (p := ⟨q, 3, none⟩) (fun e => by simp at e; omega) (.slice B ixs.length d)).far (p := ⟨q, 0, none⟩) (fun e => by simp at e; omega) (.string (str nm))).far (p := ⟨q, 1, none⟩) (fun e => by simp at e; omega) (.slice A cols.length c)).far (p := ⟨q, 2, none⟩) (fun e => by simp at e; omega) (.int .i64 ky)).far (p := ⟨q, 3, none⟩) (fun e => by simp at e; omega) (.slice B ixs.length d))
  have HF8 := Aside0.mk ((((((HF5.out.trans hf7).set (p := ⟨q, 3, none⟩) (.inr hle) (.slice B ixs.length d)).set (p := ⟨q, 0, none⟩) (.inr hle) (.string (str nm))).set (p := ⟨q, 1, none⟩) (.inr hle) (.slice A cols.length c)).set (p := ⟨q, 2, none⟩) (.inr hle) (.int .i64 ky)).set (p := ⟨q, 3, none⟩) (.inr hle) (.slice B ixs.length d))
  have HR8 := Aside0.mk (R_at (R_at (R_at (R_at (R_at (R_up HR5.out hf7 (by omega)) 3 (.slice B ixs.length d)) 0 (.string (str nm))) 1 (.slice A cols.length c)) 2 (.int .i64 ky)) 3 (.slice B ixs.length d))
  have HY8 := Aside0.mk (R_at (R_at (R_at (R_at (R_at (R_in hr7 hsz6) 3 (.slice B ixs.length d)) 0 (.string (str nm))) 1 (.slice A cols.length c)) 2 (.int .i64 ky)) 3 (.slice B ixs.length d))
  clear h7 hf7 hx7 hr7
  go_wp2_with fail
  clear c0 c1 c2 c3 f0 f1 f2 f3
  generalize ((((w7.setCell ⟨q, 3, none⟩ (.slice B ixs.length d)).setCell ⟨q, 0, none⟩ (.string (str nm))).setCell ⟨q, 1, none⟩ (.slice A cols.length c)).setCell ⟨q, 2, none⟩ (.int .i64 ky)).setCell ⟨q, 3, none⟩ (.slice B ixs.length d) = w9 at *
  have z0 := HX8.out.c0
  have z1 := HX8.out.c1
  have z2 := HX8.out.c2
  have z3 := HX8.out.c3
  refine bodyPost_ret (v := .agg #[.string (str nm), .slice A cols.length c, .int .i64 ky, .slice B ixs.length d]) (by first | (go_simp; done) | (simp [results, Try.f53, go_sem, z0, z1, z2, z3]; done) | (simp [results, Try.f53, go_sem, z0, z1, z2, z3]; rfl)) rfl ?_
  exact ⟨_, rfl, ⟨_, _, rfl, Kd.R_mono (Kd.R_lower HR8.out (by omega)) (fun _ _ => trivial), Kd.R_mono (Kd.R_lower HY8.out (by omega)) (fun _ _ => trivial)⟩, H8.out, HF8.out⟩
end Go.Proofs.Ytjehbnhjaogfkaa.Sc
