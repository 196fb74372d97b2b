import Derived.Test.YtjehbnhjaogfkaaSc6
namespace Go.Proofs.Ytjehbnhjaogfkaa.Sc
open Go.RowKit Go.Proofs.YtjehbnhjaogfkaaW.PrintWords Go.Proofs.YtjehbnhjaogfkaaW.PrintLast Go.Proofs.YtjehbnhjaogfkaaW.PrintMore
open Go.Proofs.Ytjehbnhjaogfkaa
set_option linter.unusedVariables false
set_option linter.unusedSimpArgs false
theorem mem_get {V : Type} {m : FM.T V} {k : FM.Key} {v : V} (h : FM.get m k = some v) : (k, v) ∈ m := FM.mem_of_get h
/-- What a look into the catalogue gives is a schema's value. -/
theorem cat_look {ok : Nat → Prop} {W : World} {g b : Nat} {M : CatM} (h : IsCat ok W g b M) (k : FM.Key) : ∃ nm A n ca key B m cb, (FM.get (mapV (·.1) M) k).getD zt = .agg #[.string nm, .slice A n ca, .int .i64 key, .slice B m cb] := by
  rw [mapV_get]
  cases hg : FM.get M k with
  | none => exact ⟨_, _, _, _, _, _, _, _, rfl⟩
  | some p =>
    obtain ⟨A, ca, B, cb, e, -⟩ := (h.tb _ (mem_get hg)).2.2.reads
    exact ⟨_, _, _, _, _, _, _, _, e⟩
theorem IsCat.cell {ok : Nat → Prop} {W : World} {g b : Nat} {M : CatM} (h : IsCat ok W g b M) : W.cell? ⟨g, 0, none⟩ = some (.map (some b)) := (blk_cell h.blk 0).trans rfl
theorem IsCat.del {ok : Nat → Prop} {W W1 : World} {g b : Nat} {M : CatM} (h : IsCat ok W g b M) (k : FM.Key) (ho : OwnV W1 b (FM.del (mapV (·.1) M) k)) (hg : W.grownBy W1 (some b)) : IsCat ok W1 g b (FM.del M k) := by
  obtain ⟨es, cl, hbb, _⟩ := h.own
  refine ⟨(hg.block g h.lt.1 (fun e => h.ne (by cases e; rfl))).trans h.blk, by rw [mapV_del]; exact ho, fun p hp => ?_, h.st.del k, Nat.le_trans (FM.len_del M k) h.len⟩
  have hp' := (FM.mem_del.1 hp).1
  refine ⟨(h.tb p hp').1, (h.tb p hp').2.1, (h.tb p hp').2.2.move fun q _ hlt hc => hg.block q hlt fun e => ?_⟩
  cases e
  obtain ⟨t, cells, -, hc⟩ := hc
  rw [hbb] at hc
  cases hc
set_option maxRecDepth 100000 in
set_option maxHeartbeats 4000000 in
theorem drop_walk (ok : Nat → Prop) (W : World) (g b : Nat) (M : CatM) (h : IsCat ok W g b M) (s : ByteArray) (hs : s.size ≤ maxLen) :
    Calls Try.prog 10 #[.pointer (some ⟨g, 0, none⟩), .string s] W fun e w' => e = .returned (.int .i64 (if (FM.get M s.data.toList).isSome then 0 else 141)) ∧ IsCat ok w' g b (FM.del M s.data.toList) ∧ Fr (fun k => k = b) W w' := by
  have HI := Aside0.mk h
  have c0 := h.cell
  have c1 : ∀ o, (W.alloc o).cell? ⟨g, 0, none⟩ = some (.map (some b)) := fun o => cell_alloc o c0
  obtain ⟨nm, A, n, ca, key, B, m, cb, hv⟩ := cat_look h s.data.toList
  have HV := Aside0.mk hv
  have hgs : (FM.get (mapV (·.1) M) s.data.toList).isSome = (FM.get M s.data.toList).isSome := by rw [mapV_get]; simp
  obtain ⟨f, hf⟩ : ∃ f, (FM.get M s.data.toList).isSome = f := ⟨_, rfl⟩
  rw [hf] at hgs
  have HGS := Aside0.mk hgs
  have HF := Aside0.mk hf
  have HS := Aside0.mk hs
  have hlt := h.lt.1
  have HLT := Aside0.mk hlt
  have HIa := Aside0.mk (fun o => h.below (below_alloc (Below.refl W.heap.size W) o))
  have HBa := Aside0.mk (fun o => Fr.of_below (S := fun k => k = b) (below_alloc (Below.refl W.heap.size W) o))
  rw [hf]
  clear h hv hgs hf hs hlt
  cases f with
  | true =>
    go_enter Try.func10, Try.ntmps10
    go_wp2_with (first | (at_lookup; refine step_lookV rfl _ _ rfl b (mapV (·.1) M) rfl HI.out.own s rfl HS.out ?_; rw [HV.out, HGS.out]) | (at_delete; refine step_delV rfl _ _ rfl b (mapV (·.1) M) rfl (HIa.out _).own s rfl HS.out ?_; intro w3 ho hg3; have HI3 := Aside0.mk ((HIa.out _).del _ ho hg3); have HB3 := Aside0.mk ((HBa.out _).grown hg3 (.inl rfl)); clear ho hg3))
    go_ret
    exact ⟨rfl, HI3.out, HB3.out⟩
  | false =>
    go_enter Try.func10, Try.ntmps10
    go_wp2_with (first | (at_lookup; refine step_lookV rfl _ _ rfl b (mapV (·.1) M) rfl HI.out.own s rfl HS.out ?_; rw [HV.out, HGS.out]))
    go_ret
    refine ⟨rfl, ?_, Fr.of_below (below_alloc (Below.refl _ _) _)⟩
    rw [FL.del_none (by cases hg : FM.get M s.data.toList with | none => rfl | some p => have := HF.out; rw [hg] at this; cases this)]
    exact HI.out.below (below_alloc (Below.refl _ _) _)
theorem chk_bounds {t : Tb} (h : chk t = true) : t.nm.size ≤ 32 ∧ t.cols.length ≤ 32 ∧ t.ixs.length ≤ 8 ∧ ∀ x ∈ t.ixs, x.cols.length ≤ 32 := by
  unfold chk ck2 ck1 nmOk ins at h
  simp only [Bool.and_eq_true, decide_eq_true_eq, List.all_eq_true] at h
  obtain ⟨⟨⟨⟨⟨⟨⟨⟨⟨_, h1⟩, _⟩, _, h2⟩, _⟩, h3⟩, _⟩, _⟩, _⟩, h4⟩ := h
  refine ⟨h1, by omega, h3, fun x hx => ?_⟩
  have := h4 x hx
  unfold ixOk ins at this
  simp only [Bool.and_eq_true, decide_eq_true_eq] at this
  omega
/-- What Find gives. -/
def FindPost (W : World) (r : Option (Value × Tb)) (e : Ending) (w' : World) : Prop :=
  match r with
  | none => e = .returned (.tuple #[zt, .int .i64 141])
  | some p => ∃ v, e = .returned (.tuple #[v, .int .i64 0]) ∧ OwnTb (fun _ => True) W.heap.size w' v p.2
set_option maxRecDepth 100000 in
set_option maxHeartbeats 4000000 in
theorem find_walk (ok : Nat → Prop) (W : World) (g b : Nat) (M : CatM) (h : IsCat ok W g b M) (s : ByteArray) (hs : s.size ≤ maxLen) :
    Calls Try.prog 17 #[.pointer (some ⟨g, 0, none⟩), .string s] W fun e w' => FindPost W (FM.get M s.data.toList) e w' ∧ Below W.heap.size W w' := by
  obtain ⟨z, hz⟩ : ∃ z, W.heap.size = z := ⟨_, rfl⟩
  have HZ := Aside0.mk hz
  have HI := Aside0.mk h
  have c0 := h.cell
  have c1 : ∀ o, (W.alloc o).cell? ⟨g, 0, none⟩ = some (.map (some b)) := fun o => cell_alloc o c0
  obtain ⟨nm, A, n, ca, key, B, m, cb, hv⟩ := cat_look h s.data.toList
  have HV := Aside0.mk hv
  have hgs : (FM.get (mapV (·.1) M) s.data.toList).isSome = (FM.get M s.data.toList).isSome := by rw [mapV_get]; simp
  have HS := Aside0.mk hs
  have HIa := Aside0.mk (fun o => h.below (below_alloc (Below.refl W.heap.size W) o))
  have HB2 := Aside0.mk (show Below W.heap.size W ((W.alloc (.cells #[.string ⟨#[]⟩, .slice none 0 0, .int .i64 0, .slice none 0 0] 30)).alloc (.cells #[.string nm, .slice A n ca, .int .i64 key, .slice B m cb] 30)) from below_alloc (below_alloc (Below.refl _ _) _) _)
  have HX := Aside0.mk (show TbBox ((W.alloc (.cells #[.string ⟨#[]⟩, .slice none 0 0, .int .i64 0, .slice none 0 0] 30)).alloc (.cells #[.string nm, .slice A n ca, .int .i64 key, .slice B m cb] 30)) z (.string ⟨#[]⟩) (.slice none 0 0) (.int .i64 0) (.slice none 0 0) from by
    rw [← hz]
    have h := tbBox_made W (.string ⟨#[]⟩) (.slice none 0 0) (.int .i64 0) (.slice none 0 0) 30
    exact h.keep (below_alloc (Below.refl _ _) _) h.lt)
  cases hg : FM.get M s.data.toList with
  | none =>
    have HGS := Aside0.mk (show (FM.get (mapV (·.1) M) s.data.toList).isSome = false from by rw [hgs, hg]; rfl)
    clear h hv hgs hs hg
    go_enter Try.func17, Try.ntmps17
    go_wp2_with (first | (at_lookup; refine step_lookV rfl _ _ rfl b (mapV (·.1) M) rfl (HIa.out _).own s rfl HS.out ?_; rw [HV.out, HGS.out]))
    generalize ((W.alloc (.cells #[.string ⟨#[]⟩, .slice none 0 0, .int .i64 0, .slice none 0 0] 30)).alloc (.cells #[.string nm, .slice A n ca, .int .i64 key, .slice B m cb] 30)) = W2 at *
    have z0 := HX.out.c0
    have z1 := HX.out.c1
    have z2 := HX.out.c2
    have z3 := HX.out.c3
    refine bodyPost_ret (v := .tuple #[.agg #[.string ⟨#[]⟩, .slice none 0 0, .int .i64 0, .slice none 0 0], .int .i64 141]) (by first | (go_simp; done) | (simp [results, Try.f17, go_sem, z0, z1, z2, z3]; done) | (simp [results, Try.f17, go_sem, z0, z1, z2, z3]; rfl)) rfl ?_
    exact ⟨rfl, HB2.out⟩
  | some p =>
    have HGS := Aside0.mk (show (FM.get (mapV (·.1) M) s.data.toList).isSome = true from by rw [hgs, hg]; rfl)
    have hp := h.tb _ (mem_get hg)
    have hpv : p.1 = .agg #[.string nm, .slice A n ca, .int .i64 key, .slice B m cb] := by rw [← hv, mapV_get, hg]; rfl
    have HP := Aside0.mk hp
    have HPV := Aside0.mk hpv
    clear h hv hgs hs hg hp hpv
    go_enter Try.func17, Try.ntmps17
    go_wp2_with (first | (at_lookup; refine step_lookV rfl _ _ rfl b (mapV (·.1) M) rfl (HIa.out _).own s rfl HS.out ?_; rw [HV.out, HGS.out]))
    generalize ((W.alloc (.cells #[.string ⟨#[]⟩, .slice none 0 0, .int .i64 0, .slice none 0 0] 30)).alloc (.cells #[.string nm, .slice A n ca, .int .i64 key, .slice B m cb] 30)) = W2 at *
    have hown := HP.out.2.2.move (fun k _ hk _ => HB2.out.block k hk)
    obtain ⟨A', ca', B', cb', e, hca, hC, hcb, hC2⟩ := hown.reads
    rw [HPV.out] at e
    obtain ⟨q1, q2, q3, q4⟩ := chk_bounds HP.out.2.1
    rw [e]
    have HLt := Aside0.mk HX.out.lt
    clear c0 c1 e hown
    refine (own_walk W2 p.2 A' ca' B' cb' hC hca hC2 hcb (by omega) (by omega) (fun x hx => by have := q4 x hx; omega)).mono ?_
    rintro e w3 ⟨v, rfl, hO, hB3⟩
    obtain ⟨A3, c3, B3, d3, rfl, -, -, -, -⟩ := hO.reads
    have HX3 := Aside0.mk (HX.out.keep hB3 HLt.out)
    have HO := Aside0.mk (hO.mono (ok' := fun k => z < k) (base' := z + 1) (fun k _ hk _ => by have := HLt.out; omega) (by have := HLt.out; omega))
    have HB3 := Aside0.mk (step HB2.out hB3)
    have z0 := HX3.out.c0
    have z1 := HX3.out.c1
    have z2 := HX3.out.c2
    have z3 := HX3.out.c3
    have f0 := HX3.out.fz 0
    have f1 := HX3.out.fz 1
    have f2 := HX3.out.fz 2
    have f3 := HX3.out.fz 3
    clear hO hB3 hC hC2 hca hcb q1 q2 q3 q4
    go_wp2_with fail
    have HY := Aside0.mk ((((HX3.out.set0 (.string p.2.nm)).set1 (.slice A3 p.2.cols.length c3)).set2 (.int .i64 p.2.key)).set3 (.slice B3 p.2.ixs.length d3))
    have hzz : W.heap.size ≤ z := by have := HZ.out; omega
    have HWz := Aside0.mk (below_set (below_set (below_set (below_set (g := z) (j := 0) (v := .string p.2.nm) HB3.out hzz) hzz (j := 1) (v := .slice A3 p.2.cols.length c3)) hzz (j := 2) (v := .int .i64 p.2.key)) hzz (j := 3) (v := .slice B3 p.2.ixs.length d3))
    have far : ∀ (w : World) (j : Nat) (u v : Value) (t : Tb), OwnTb (fun k => z < k) (z + 1) w v t → OwnTb (fun k => z < k) (z + 1) (w.setCell ⟨z, j, none⟩ u) v t := fun w j u v t h => h.move fun k hk _ _ => Below.heap_setCell w ⟨z, j, none⟩ u k (by show k ≠ z; omega)
    have HO4 := Aside0.mk (far _ 3 (.slice B3 p.2.ixs.length d3) _ _ (far _ 2 (.int .i64 p.2.key) _ _ (far _ 1 (.slice A3 p.2.cols.length c3) _ _ (far _ 0 (.string p.2.nm) _ _ HO.out))))
    generalize (((w3.setCell ⟨z, 0, none⟩ (.string p.2.nm)).setCell ⟨z, 1, none⟩ (.slice A3 p.2.cols.length c3)).setCell ⟨z, 2, none⟩ (.int .i64 p.2.key)).setCell ⟨z, 3, none⟩ (.slice B3 p.2.ixs.length d3) = wz at *
    clear z0 z1 z2 z3 f0 f1 f2 f3 far
    have z0 := HY.out.c0
    have z1 := HY.out.c1
    have z2 := HY.out.c2
    have z3 := HY.out.c3
    refine bodyPost_ret (v := .tuple #[.agg #[.string p.2.nm, .slice A3 p.2.cols.length c3, .int .i64 p.2.key, .slice B3 p.2.ixs.length d3], .int .i64 0]) (by first | (go_simp; done) | (simp [results, Try.f17, go_sem, z0, z1, z2, z3]; done) | (simp [results, Try.f17, go_sem, z0, z1, z2, z3]; rfl)) rfl ?_
    exact ⟨⟨_, rfl, HO4.out.mono (fun _ _ _ _ => trivial) (by omega)⟩, HWz.out⟩
end Go.Proofs.Ytjehbnhjaogfkaa.Sc
