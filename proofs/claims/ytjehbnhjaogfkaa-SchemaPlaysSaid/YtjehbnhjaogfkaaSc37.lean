import Derived.Test.YtjehbnhjaogfkaaMb
namespace Go.Proofs.Ytjehbnhjaogfkaa.Sc
open Go.RowKit Go.Lib Go.Maps Go.WideAt Go.WideShapes Go.Proofs.YtjehbnhjaogfkaaW.PrintWords Go.Proofs.YtjehbnhjaogfkaaW.PrintLast Go.Proofs.YtjehbnhjaogfkaaW.PrintMore
open Go.Proofs.Ytjehbnhjaogfkaa
set_option linter.unusedVariables false
set_option linter.unusedSimpArgs false
/-- What TakeTable makes of bytes. -/
def rT (b : List UInt8) : Tb × RS := rtab ⟨b, false⟩
set_option maxRecDepth 100000 in
set_option maxHeartbeats 8000000 in
theorem take_table_walk (W : World) (b : List UInt8) (hl : b.length ≤ 1000000000) :
    Calls Try.prog 32 #[.string (str b)] W fun e W' => ∃ v, e = .returned (.tuple #[v, .string (str (rT b).2.b), .bool (!(rT b).2.bad)]) ∧ OwnTb (fun _ => True) W.heap.size W' v (rT b).1 ∧ Below W.heap.size W W' := by
  obtain ⟨q, hq⟩ : ∃ q, W.heap.size = q := ⟨_, rfl⟩
  obtain ⟨t, ht⟩ : ∃ t, (rT b).1 = t := ⟨_, rfl⟩
  obtain ⟨⟨b2, bad2⟩, hs⟩ : ∃ s2, (rT b).2 = s2 := ⟨_, rfl⟩
  rw [ht, hs]
  have HT := Aside0.mk (show (rtab ⟨b, false⟩).1 = t from ht)
  have HS := Aside0.mk (show (rtab ⟨b, false⟩).2 = ⟨b2, bad2⟩ from hs)
  have HX := Aside0.mk (show TbBox ((W.alloc (.cells #[.string ⟨#[]⟩, .slice none 0 0, .int .i64 0, .slice none 0 0] 30)).alloc (.cells #[.string (str b), .bool false] 107)) q (.string ⟨#[]⟩) (.slice none 0 0) (.int .i64 0) (.slice none 0 0) from by
    rw [← hq]
    have h := tbBox_made W (.string ⟨#[]⟩) (.slice none 0 0) (.int .i64 0) (.slice none 0 0) 30
    exact h.keep (below_alloc (Below.refl _ _) _) h.lt)
  have HR := Aside0.mk (show Rd ((W.alloc (.cells #[.string ⟨#[]⟩, .slice none 0 0, .int .i64 0, .slice none 0 0] 30)).alloc (.cells #[.string (str b), .bool false] 107)) (q + 1) ⟨b, false⟩ from by
    have h := heap_alloc_new (W.alloc (.cells #[.string ⟨#[]⟩, .slice none 0 0, .int .i64 0, .slice none 0 0] 30)) (.cells #[.string (str b), .bool false] 107)
    have e : (W.alloc (.cells #[.string ⟨#[]⟩, .slice none 0 0, .int .i64 0, .slice none 0 0] 30)).heap.size = q + 1 := by rw [← hq]; simp [World.alloc_eq]
    rw [e] at h
    exact h)
  have HB := Aside0.mk (show Below W.heap.size W ((W.alloc (.cells #[.string ⟨#[]⟩, .slice none 0 0, .int .i64 0, .slice none 0 0] 30)).alloc (.cells #[.string (str b), .bool false] 107)) from below_alloc (below_alloc (Below.refl _ _) _) _)
  have HQ := Aside0.mk hq
  clear ht hs
  go_enter Try.func32, Try.ntmps32
  go_wp2_with fail
  clear hq
  generalize (W.alloc (.cells #[.string ⟨#[]⟩, .slice none 0 0, .int .i64 0, .slice none 0 0] 30)).alloc (.cells #[.string (str b), .bool false] 107) = w0 at *
  refine (rtab_walk w0 (q + 1) ⟨b, false⟩ HR.out hl).mono ?_
  rw [HT.out, HS.out]
  rintro e w1 ⟨v, rfl, hO, h1, hf1⟩
  obtain ⟨A, c, B, d, rfl, -, -, -, -⟩ := hO.reads
  have hx1 := HX.out.fr hf1 (fun e => by unfold Only at e; omega)
  have h0 := HX.out.lt
  have hba := below_alloc (Below.refl w1.heap.size w1) (.cells #[.string t.nm, .slice A t.cols.length c, .int .i64 t.key, .slice B t.ixs.length d] 30)
  have hl1 := hf1.size
  have HX1 := Aside0.mk (hx1.keep hba hx1.lt)
  have HR1 := Aside0.mk (h1.below hba)
  have HBox := Aside0.mk (tbBox_made w1 (.string t.nm) (.slice A t.cols.length c) (.int .i64 t.key) (.slice B t.ixs.length d) 30)
  have HB1 := Aside0.mk (step (hf1.below HB.out fun k hk => by unfold Only at hk; have := HQ.out; omega) hba)
  have hO2 := (hO.move (W1 := w1.alloc (.cells #[.string t.nm, .slice A t.cols.length c, .int .i64 t.key, .slice B t.ixs.length d] 30)) fun k _ hk _ => hba.block k hk).mono (ok' := fun k => q + 1 < k) (base' := w0.heap.size) (fun k _ hk _ => by have := HR.out.lt; omega) (Nat.le_refl _)
  have HO := Aside0.mk hO2
  have HR0 := Aside0.mk HR.out.lt
  have HLq := Aside0.mk (show q < w1.heap.size by omega)
  clear hO h1 hf1 hx1 hba hO2
  go_upto_region 3 with fail
  obtain ⟨p, hp⟩ : ∃ p, w1.heap.size = p := ⟨_, rfl⟩
  rw [hp] at HBox HLq ⊢
  generalize w1.alloc (.cells #[.string t.nm, .slice A t.cols.length c, .int .i64 t.key, .slice B t.ixs.length d] 30) = w2 at *
  have hpq : ¬ p = q := by have := HLq.out; omega
  have hqp : ¬ q = p := by have := HLq.out; omega
  have hp1 : ¬ p = q + 1 := by have := HR0.out; omega
  have hdr : Below w2.heap.size w2 w2.drew := below_drew (Below.refl _ _)
  have hxd := HX1.out.keep hdr HX1.out.lt
  have hbd := HBox.out.keep hdr HBox.out.lt
  have hrd := HR1.out.below hdr
  have a0 := HX1.out.c0
  have a1 := HX1.out.c1
  have a2 := HX1.out.c2
  have a3 := HX1.out.c3
  have g0 := HX1.out.fz 0
  have g1 := HX1.out.fz 1
  have g2 := HX1.out.fz 2
  have g3 := HX1.out.fz 3
  have e0 := HBox.out.c0
  have e1 := HBox.out.c1
  have e2 := HBox.out.c2
  have e3 := HBox.out.c3
  have r0 : w2.cell? ⟨q + 1, 0, none⟩ = some (.string (str b2)) := (blk_cell HR1.out 0).trans rfl
  have r1 : w2.cell? ⟨q + 1, 1, none⟩ = some (.bool bad2) := (blk_cell HR1.out 1).trans rfl
  have hle : W.heap.size ≤ q := Nat.le_of_eq HQ.out
  have HBd := Aside0.mk (below_drew (below_set (below_set (below_set (below_set HB1.out hle (j := 0) (v := .string t.nm)) hle (j := 1) (v := .slice A t.cols.length c)) hle (j := 2) (v := .int .i64 t.key)) hle (j := 3) (v := .slice B t.ixs.length d)))
  have hxf := (((HX1.out.set0 (.string t.nm)).set1 (.slice A t.cols.length c)).set2 (.int .i64 t.key)).set3 (.slice B t.ixs.length d)
  have HXf := Aside0.mk (hxf.keep (below_drew (Below.refl _ _)) hxf.lt)
  have HOf := Aside0.mk (HO.out.move (W1 := ((((w2.setCell ⟨q, 0, none⟩ (.string t.nm)).setCell ⟨q, 1, none⟩ (.slice A t.cols.length c)).setCell ⟨q, 2, none⟩ (.int .i64 t.key)).setCell ⟨q, 3, none⟩ (.slice B t.ixs.length d)).drew) fun k hk _ _ => by
    show ((((w2.setCell ⟨q, 0, none⟩ (.string t.nm)).setCell ⟨q, 1, none⟩ (.slice A t.cols.length c)).setCell ⟨q, 2, none⟩ (.int .i64 t.key)).setCell ⟨q, 3, none⟩ (.slice B t.ixs.length d)).heap[k]? = w2.heap[k]?
    rw [Below.heap_setCell _ _ _ _ (by simp; omega), Below.heap_setCell _ _ _ _ (by simp; omega), Below.heap_setCell _ _ _ _ (by simp; omega), Below.heap_setCell _ _ _ _ (by simp; omega)])
  have HSz := Aside0.mk HR.out.lt
  clear hxd hbd hrd hdr hxf
  go_region
  clear a0 a1 a2 a3 g0 g1 g2 g3 e0 e1 e2 e3 r0 r1
  generalize ((((w2.setCell ⟨q, 0, none⟩ (.string t.nm)).setCell ⟨q, 1, none⟩ (.slice A t.cols.length c)).setCell ⟨q, 2, none⟩ (.int .i64 t.key)).setCell ⟨q, 3, none⟩ (.slice B t.ixs.length d)).drew = w9 at *
  have z0 := HXf.out.c0
  have z1 := HXf.out.c1
  have z2 := HXf.out.c2
  have z3 := HXf.out.c3
  go_wp2_with fail
  refine bodyPost_ret (v := .tuple #[.agg #[.string t.nm, .slice A t.cols.length c, .int .i64 t.key, .slice B t.ixs.length d], .string (str b2), .bool !bad2]) (by first | (go_simp; done) | (simp [results, Try.f32, go_sem, z0, z1, z2, z3]; done) | (simp [results, Try.f32, go_sem, z0, z1, z2, z3]; rfl)) rfl ?_
  exact ⟨_, rfl, HOf.out.mono (fun _ _ _ _ => trivial) (by have := HB.out.size; omega), HBd.out⟩
end Go.Proofs.Ytjehbnhjaogfkaa.Sc
