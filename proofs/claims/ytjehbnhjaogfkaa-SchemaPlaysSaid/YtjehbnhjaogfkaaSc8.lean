import Derived.Test.YtjehbnhjaogfkaaSc7
namespace Go.Proofs.Ytjehbnhjaogfkaa.Sc
open Go.RowKit Go.Proofs.YtjehbnhjaogfkaaW.PrintWords Go.Proofs.YtjehbnhjaogfkaaW.PrintLast Go.Proofs.YtjehbnhjaogfkaaW.PrintMore
open Go.Proofs.Ytjehbnhjaogfkaa
set_option linter.unusedVariables false
set_option linter.unusedSimpArgs false
theorem lookV2_run {W : World} (b : Nat) (fs : FM.T Value) (hown : OwnV W b fs) (s : ByteArray) (hs : s.size ≤ maxLen) : (Instr.lookup 62 (.map (some b)) (.string s) true).run Try.prog W = .ok (.tuple #[(FM.get fs s.data.toList).getD zt, .bool (FM.get fs s.data.toList).isSome]) W := by
  obtain ⟨v, ps, hr, hv⟩ := hown.look_ok (Go.Maps.string_keyed Try.underlying9) Try.underlying62 (zero30 W) (rfl : rawR zt = some (DataW.held zt, [])) (key9 s hs)
  rw [FM.toD_at] at hv
  rw [hr, rawR_inv hv, FM.toD_has]
theorem putV_run {W : World} (b : Nat) (fs : FM.T Value) (hown : OwnV W b fs) (hn : fs.length ≤ 1000000) (s : ByteArray) (hs : s.size ≤ maxLen) (f : Value) : ∃ w', (Instr.mapUpdate 62 (.map (some b)) (.string s) f).run Try.prog W = .ok () w' ∧ OwnV w' b (FM.put fs s.data.toList f) ∧ W.grownBy w' (some b) := by
  obtain ⟨w', h1, h2, h3⟩ := hown.update (Go.Maps.string_keyed Try.underlying9) Try.underlying62 (by unfold maxLen; omega) (key9 s hs) (rfl : rawR f = some (DataW.held f, []))
  rw [FM.toD_put] at h2
  exact ⟨w', h1, ownV_tight h2, h3⟩
theorem IsCat.put {ok : Nat → Prop} {W W1 : World} {g b : Nat} {M : CatM} (h : IsCat ok W g b M) {t : Tb} {v : Value} {base : Nat} (hv : OwnTb (fun _ => True) base W v t) (hok : ∀ k, base ≤ k → ok k) (hc : chk t = true) (hl : M.length < 4096) (ho : OwnV W1 b (FM.put (mapV (·.1) M) t.nm.data.toList v)) (hg : W.grownBy W1 (some b)) : IsCat ok W1 g b (FM.put M t.nm.data.toList (v, t)) := by
  obtain ⟨es, cl, hbb, _⟩ := h.own
  have hmv : ∀ {u : Value} {q : Tb}, OwnTb ok 0 W u q → OwnTb ok 0 W1 u q := fun hq => hq.move fun q _ hlt hc => hg.block q hlt fun e => by
    cases e
    obtain ⟨t, cells, -, hc⟩ := hc
    rw [hbb] at hc
    cases hc
  refine ⟨(hg.block g h.lt.1 (fun e => h.ne (by cases e; rfl))).trans h.blk, by rw [mapV_put]; exact ho, fun p hp => ?_, h.st.put _ _, by have := FM.len_put_new M t.nm.data.toList (v, t); omega⟩
  rcases FM.mem_put.1 hp with rfl | ⟨hp', -⟩
  · exact ⟨rfl, hc, hmv (hv.mono (fun k _ hk _ => hok k hk) (Nat.zero_le _))⟩
  · exact ⟨(h.tb p hp').1, (h.tb p hp').2.1, hmv (h.tb p hp').2.2⟩
/-- What Create says. -/
def crE (M : CatM) (t : Tb) : Int := if chk t then (if (FM.get M t.nm.data.toList).isSome then 6 else if 4096 ≤ M.length then 2 else 0) else 140
def CrPost (ok : Nat → Prop) (W : World) (g b : Nat) (M : CatM) (t : Tb) (e : Ending) (w' : World) : Prop := e = .returned (.int .i64 (crE M t)) ∧ Fr (fun k => k = b) W w' ∧
      (if crE M t = 0 then ∃ v, IsCat (fun k => ok k ∨ W.heap.size ≤ k) w' g b (FM.put M t.nm.data.toList (v, t)) else IsCat ok w' g b M)
set_option maxRecDepth 100000 in
set_option maxHeartbeats 4000000 in
theorem create_walk (ok : Nat → Prop) (W : World) (g b : Nat) (M : CatM) (h : IsCat ok W g b M) (t : Tb) (A : Option Addr) (ca : Nat) (B : Option Addr) (cb : Nat) (hA : kcol.C W A t.cols.length t.cols) (hca : t.cols.length ≤ ca) (hB : kix.C W B t.ixs.length t.ixs) (hcb : t.ixs.length ≤ cb)
    (hn : t.nm.size ≤ maxLen) (hs : ∀ x ∈ t.cols, x.nm.size ≤ maxLen) (hs2 : ∀ x ∈ t.ixs, x.nm.size ≤ maxLen) (hl : t.cols.length ≤ 140737488355328) (hl2 : t.ixs.length ≤ 140737488355328) (hl3 : ∀ x ∈ t.ixs, x.cols.length ≤ 140737488355328) :
    Calls Try.prog 9 #[.pointer (some ⟨g, 0, none⟩), .agg #[.string t.nm, .slice A t.cols.length ca, .int .i64 t.key, .slice B t.ixs.length cb]] W (CrPost ok W g b M t) := by
  obtain ⟨z, hz⟩ : ∃ z, W.heap.size = z := ⟨_, rfl⟩
  have HZ := Aside0.mk hz
  have HI := Aside0.mk h
  have HA := Aside0.mk hA
  have HB := Aside0.mk hB
  have HX := Aside0.mk (show TbBox (W.alloc (.cells #[.string t.nm, .slice A t.cols.length ca, .int .i64 t.key, .slice B t.ixs.length cb] 30)) z (.string t.nm) (.slice A t.cols.length ca) (.int .i64 t.key) (.slice B t.ixs.length cb) from hz ▸ tbBox_made W _ _ _ _ _)
  have HW1 := Aside0.mk (below_alloc (Below.refl W.heap.size W) (.cells #[.string t.nm, .slice A t.cols.length ca, .int .i64 t.key, .slice B t.ixs.length cb] 30))
  have HN := Aside0.mk hn
  have HS := Aside0.mk hs
  have HS2 := Aside0.mk hs2
  have HL3 := Aside0.mk hl3
  clear h hA hB hn hs hs2 hl3
  go_enter Try.func9, Try.ntmps9
  go_wp2_with fail
  clear hz
  generalize (W.alloc (.cells #[.string t.nm, .slice A t.cols.length ca, .int .i64 t.key, .slice B t.ixs.length cb] 30)) = w1 at *
  refine (chk_walk w1 t A ca B cb (Kd.C_below HA.out HW1.out) hca (Kd.C_below HB.out HW1.out) hcb HN.out HS.out HS2.out hl hl2 HL3.out).mono ?_
  rintro e w2 ⟨rfl, hb2⟩
  have HX2 := Aside0.mk (HX.out.keep hb2 HX.out.lt)
  have HW2 := Aside0.mk (step HW1.out hb2)
  clear hb2
  cases hc : chk t with
  | false =>
    have hce : crE M t = 140 := by simp [crE, hc]
    have HCE := Aside0.mk hce
    clear hc hce
    go_wp2_with fail
    go_ret
    unfold CrPost
    rw [HCE.out]
    exact ⟨rfl, Fr.of_below HW2.out, by simpa using HI.out.below HW2.out⟩
  | true =>
    have HC := Aside0.mk hc
    obtain ⟨q1, q2, q3, q4⟩ := chk_bounds hc
    have HQ4 := Aside0.mk q4
    clear hc q4
    have HI2 := Aside0.mk (HI.out.below HW2.out)
    have hI2 := HI2.out
    obtain ⟨nm, A5, n5, ca5, key5, B5, m5, cb5, hv⟩ := cat_look hI2 t.nm.data.toList
    have hgs : (FM.get (mapV (·.1) M) t.nm.data.toList).isSome = (FM.get M t.nm.data.toList).isSome := by rw [mapV_get]; simp
    have c0 := hI2.cell
    have c1 : ∀ o, (w2.alloc o).cell? ⟨g, 0, none⟩ = some (.map (some b)) := fun o => cell_alloc o c0
    have x0 := HX2.out.c0
    have x1 : ∀ o, (w2.alloc o).cell? ⟨z, 0, none⟩ = some (.string t.nm) := fun o => cell_alloc o x0
    have l1 : (Instr.lookup 62 (.map (some b)) (.string t.nm) true).run Try.prog w2.drew = .ok (.tuple #[.agg #[.string nm, .slice A5 n5 ca5, .int .i64 key5, .slice B5 m5 cb5], .bool (FM.get M t.nm.data.toList).isSome]) w2.drew := by
      rw [lookV2_run b _ (hI2.below (below_drew (Below.refl _ _))).own t.nm HN.out, hv, hgs]
    have l2 : ∀ o, (Instr.lookup 62 (.map (some b)) (.string t.nm) true).run Try.prog (w2.alloc o).drew = .ok (.tuple #[.agg #[.string nm, .slice A5 n5 ca5, .int .i64 key5, .slice B5 m5 cb5], .bool (FM.get M t.nm.data.toList).isSome]) (w2.alloc o).drew := fun o => by
      rw [lookV2_run b _ (hI2.below (below_drew (below_alloc (Below.refl _ _) o))).own t.nm HN.out, hv, hgs]
    clear hI2 hv hgs
    obtain ⟨f, hf⟩ : ∃ f, (FM.get M t.nm.data.toList).isSome = f := ⟨_, rfl⟩
    rw [hf] at l1
    simp only [hf] at l2
    have HF := Aside0.mk hf
    clear hf
    go_upto_region 4 with fail
    go_cut [7] (fun v7 wd => v7 = .bool f ∧ wd = (w2.alloc (.cells #[.string nm, .slice A5 n5 ca5, .int .i64 key5, .slice B5 m5 cb5] 30)).drew)
    case first =>
      go_region
      all_goals (go_wp2_with fail; go_meet; exact ⟨rfl, rfl⟩)
    case rest =>
    obtain ⟨rfl, rfl⟩ := hcut
    have HW3 := Aside0.mk (show Below W.heap.size W (w2.alloc (.cells #[.string nm, .slice A5 n5 ca5, .int .i64 key5, .slice B5 m5 cb5] 30)).drew from step HW2.out (below_drew (below_alloc (Below.refl _ _) _)))
    have HX3 := Aside0.mk (HX2.out.keep (below_drew (below_alloc (Below.refl _ _) (.cells #[.string nm, .slice A5 n5 ca5, .int .i64 key5, .slice B5 m5 cb5] 30))) HX2.out.lt)
    clear x0 x1 l1 l2 c0 c1
    generalize (w2.alloc (.cells #[.string nm, .slice A5 n5 ca5, .int .i64 key5, .slice B5 m5 cb5] 30)).drew = w3 at *
    have HI3 := Aside0.mk (HI.out.below HW3.out)
    have c0 := HI3.out.cell
    cases f with
    | true =>
      have HCE := Aside0.mk (show crE M t = 6 by simp [crE, HC.out, HF.out])
      go_wp2_with fail
      go_ret
      unfold CrPost
      rw [HCE.out]
      exact ⟨rfl, Fr.of_below HW3.out, by simpa using HI3.out⟩
    | false =>
      by_cases h4 : 4096 ≤ M.length
      · have HCE := Aside0.mk (show crE M t = 2 by simp [crE, HC.out, HF.out, h4])
        have h4i : (4096 : Int) ≤ (M.length : Int) := by omega
        have hml : (mapV (·.1) M).length = M.length := mapV_len _ _
        clear h4
        go_wp2_with (at_len; refine step_lenV rfl _ rfl b (mapV (·.1) M) rfl HI3.out.own ?_)
        go_ret
        unfold CrPost
        rw [HCE.out]
        exact ⟨rfl, Fr.of_below HW3.out, by simpa using HI3.out⟩
      · have HCE := Aside0.mk (show crE M t = 0 by simp [crE, HC.out, HF.out, h4])
        have h4i : ¬ (4096 : Int) ≤ (M.length : Int) := by omega
        have hml : (mapV (·.1) M).length = M.length := mapV_len _ _
        have HML := Aside0.mk (show (mapV (·.1) M).length ≤ 1000000 by rw [hml]; omega)
        have x0 := HX3.out.c0
        have x1 := HX3.out.c1
        have x2 := HX3.out.c2
        have x3 := HX3.out.c3
        have HK := Aside0.mk (show ∀ w', Below w3.heap.size w3 w' → w'.cell? ⟨g, 0, none⟩ = some (.map (some b)) ∧ w'.cell? ⟨z, 0, none⟩ = some (.string t.nm) from fun w' hb => ⟨cell_keep hb HI3.out.lt.1 c0, cell_keep hb HX3.out.lt x0⟩)
        have H4 := Aside0.mk h4
        clear h4
        go_upto_region 9 with (at_len; refine step_lenV rfl _ rfl b (mapV (·.1) M) rfl HI3.out.own ?_)
        clear hml h4i
        go_region_with (go_at_call 28; refine (own_walk _ t A ca B cb (Kd.C_below HA.out (step HW3.out (below_drew (Below.refl _ _)))) hca (Kd.C_below HB.out (step HW3.out (below_drew (Below.refl _ _)))) hcb (by omega) (by omega) (fun x hx => by have := HQ4.out x hx; omega)).mono ?_; rintro e w5 ⟨v, rfl, hO, hB⟩; have hb5 := step (below_drew (Below.refl w3.heap.size w3)) hB; obtain ⟨y0, y1⟩ := HK.out _ hb5; obtain ⟨w6, hrun, hown6, hg6⟩ := putV_run b _ (HI3.out.below hb5).own HML.out t.nm HN.out v; have HO := Aside0.mk hO; have HB5 := Aside0.mk hb5; have HW6 := Aside0.mk hown6; have HG6 := Aside0.mk hg6; clear hO hB hb5 hown6 hg6)
        all_goals (
          clear y0 y1
          go_wp2_with fail
          go_ret
          unfold CrPost
          rw [HCE.out]
          refine ⟨rfl, (Fr.of_below (step HW3.out HB5.out)).grown HG6.out (.inl rfl), ?_⟩
          rw [if_pos rfl]
          exact ⟨_, ((HI3.out.below HB5.out).mono (ok' := fun k => ok k ∨ W.heap.size ≤ k) fun k hk _ => .inl hk).put HO.out (fun k hk => .inr (Nat.le_trans HW3.out.size hk)) HC.out (by have := H4.out; omega) HW6.out HG6.out⟩)
end Go.Proofs.Ytjehbnhjaogfkaa.Sc
