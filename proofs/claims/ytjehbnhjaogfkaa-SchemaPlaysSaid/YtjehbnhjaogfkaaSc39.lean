import Derived.Test.YtjehbnhjaogfkaaSc38
namespace Go.Proofs.Ytjehbnhjaogfkaa.Sc
open Go.RowKit Go.Lib Go.Maps Go.WideAt Go.WideShapes Go.Proofs.YtjehbnhjaogfkaaW.PrintWords Go.Proofs.YtjehbnhjaogfkaaW.PrintLast Go.Proofs.YtjehbnhjaogfkaaW.PrintMore
open Go.Proofs.Ytjehbnhjaogfkaa
set_option linter.unusedVariables false
set_option linter.unusedSimpArgs false
/-- Each stands ahead of the last name, or bears it. -/
def Upto (acc : List Tb) (last : List UInt8) : Prop := ∀ x ∈ acc, bytesBefore x.nm.data.toList last = true ∨ x.nm.data.toList = last
theorem Upto.before {acc : List Tb} {last : List UInt8} (h : Upto acc last) {nm : List UInt8} (hl : bytesBefore last nm = true) : ∀ x ∈ acc, bytesBefore x.nm.data.toList nm = true := fun x hx => by
  rcases h x hx with h1 | h1
  · exact bytes_trans _ _ _ h1 hl
  · rw [h1]; exact hl
theorem upto_add {acc : List Tb} {last : List UInt8} (h : Upto acc last) {t : Tb} (hl : bytesBefore last t.nm.data.toList = true) : Upto (acc ++ [t]) t.nm.data.toList := fun x hx => by
  rcases List.mem_append.1 hx with hx | hx
  · exact .inl (h.before hl x hx)
  · obtain rfl := List.mem_singleton.1 hx; exact .inr rfl
/-- What Decode gives. -/
def DecPost (W : World) (r : Int × Option (List Tb)) (e : Ending) (W' : World) : Prop :=
  match r.2 with
  | none => e = .returned (.tuple #[.pointer none, .agg #[.int .i64 0, .int .i64 r.1]])
  | some l => ∃ g b M, e = .returned (.tuple #[.pointer (some ⟨g, 0, none⟩), .agg #[.int .i64 0, .int .i64 r.1]]) ∧ IsCat (fun _ => True) W' g b M ∧ tbs M = l ∧ W.heap.size ≤ g ∧ W.heap.size ≤ b
theorem fault_set {w : World} {q : Nat} (h : w.heap[q]? = some (.cells #[.int .i64 0, .int .i64 0] 43 (0, 0))) (c : Int) : ((w.setCell ⟨q, 0, none⟩ (.int .i64 0)).setCell ⟨q, 1, none⟩ (.int .i64 c)).heap[q]? = some (.cells #[.int .i64 0, .int .i64 c] 43 (0, 0)) := by
  have h1 : (w.setCell ⟨q, 0, none⟩ (.int .i64 0)).heap[q]? = some (.cells #[.int .i64 0, .int .i64 0] 43 (0, 0)) := blk_put h 0 _ rfl
  exact blk_put h1 1 _ rfl
theorem q_ne {ok : Nat → Prop} {W : World} {g b q : Nat} {M : CatM} {cs : Array Value} {t : Nat} (h : IsCat ok W g b M) (hq : W.heap[q]? = some (.cells cs t (0, 0))) : ¬ q = b := fun e => by
  obtain ⟨es, cl, hbb⟩ := ownV_map h.own
  rw [e, hbb] at hq
  cases hq
theorem tb_ne {ok : Nat → Prop} {W : World} {g b q : Nat} {M : CatM} {v0 v1 v2 v3 : Value} (h : IsCat ok W g b M) (hq : TbBox W q v0 v1 v2 v3) : ¬ q = b := fun e => by
  obtain ⟨es, cl, hbb⟩ := ownV_map h.own
  have := hq.c0
  unfold World.cell? at this
  rw [e, hbb] at this
  cases this
set_option maxRecDepth 100000 in
set_option maxHeartbeats 16000000 in
theorem decode_walk (W : World) (b : List UInt8) (hl : b.length ≤ 9223372036854775807) :
    Calls Try.prog 14 #[.string (str b)] W fun e W' => DecPost W (decR b) e W' ∧ Below W.heap.size W W' := by
  obtain ⟨q, hq⟩ : ∃ q, W.heap.size = q := ⟨_, rfl⟩
  obtain ⟨R, hR⟩ : ∃ R, decR b = R := ⟨_, rfl⟩
  rw [hR]
  have hsz := str_size b
  have HR := Aside0.mk hR
  have HQ := Aside0.mk hq
  have HX := Aside0.mk (show (W.alloc (.cells #[.int .i64 0, .int .i64 0] 43)).heap[q]? = some (.cells #[.int .i64 0, .int .i64 0] 43 (0, 0)) from hq ▸ heap_alloc_new W _)
  have HB := Aside0.mk (below_alloc (Below.refl W.heap.size W) (.cells #[.int .i64 0, .int .i64 0] 43))
  clear hR
  by_cases hb : 262144 < b.length
  · have hbi : (262144 : Int) < (b.length : Int) := by omega
    have c0 := (blk_cell HX.out 0).trans (show _ = some (Value.int .i64 0) from rfl)
    have c1 := (blk_cell HX.out 1).trans (show _ = some (Value.int .i64 0) from rfl)
    go_enter Try.func14, Try.ntmps14
    go_wp2_with fail
    have HB2 := Aside0.mk (below_alloc (Below.refl W.heap.size W) (.cells #[.int .i64 0, .int .i64 2] 43))
    have HX2 := Aside0.mk (show (W.alloc (.cells #[.int .i64 0, .int .i64 2] 43)).heap[q]? = some (.cells #[.int .i64 0, .int .i64 2] 43 (0, 0)) from hq ▸ heap_alloc_new W _)
    clear c0 c1 hq
    generalize W.alloc (.cells #[.int .i64 0, .int .i64 2] 43) = w2 at *
    have z0 := (blk_cell HX2.out 0).trans (show _ = some (Value.int .i64 0) from rfl)
    have z1 := (blk_cell HX2.out 1).trans (show _ = some (Value.int .i64 2) from rfl)
    refine bodyPost_ret (v := .tuple #[.pointer none, .agg #[.int .i64 0, .int .i64 2]]) (by first | (go_simp; done) | (simp [results, Try.f14, go_sem, z0, z1]; done) | (simp [results, Try.f14, go_sem, z0, z1]; rfl)) rfl ?_
    have hR2 : R = (2, none) := by rw [← HR.out]; unfold decR; rw [if_pos hb]
    refine ⟨?_, HB2.out⟩
    rw [hR2]
    exact rfl
  · have hbi : ¬ (262144 : Int) < (b.length : Int) := by omega
    replace hl : b.length ≤ 1000000000 := by omega
    have hD : outD (decA (b.length + 1) b [] []) = R := by rw [← HR.out]; unfold decR; rw [if_neg hb]
    have HD := Aside0.mk hD
    clear hD HR hb
    go_enter Try.func14, Try.ntmps14
    go_wp2_with fail
    clear hq
    generalize W.alloc (.cells #[.int .i64 0, .int .i64 0] 43) = w0 at *
    refine (new_walk w0).mono ?_
    rintro e w1 ⟨rfl, hc, hb1⟩
    obtain ⟨g, hg⟩ : ∃ g, w0.heap.size + 1 = g := ⟨_, rfl⟩
    obtain ⟨bb, hbb⟩ : ∃ bb, w0.heap.size = bb := ⟨_, rfl⟩
    rw [hg, hbb] at hc
    rw [hg]
    have HC := Aside0.mk hc
    have HX1 := Aside0.mk (blk_below HX.out hb1)
    have HB1 := Aside0.mk (step HB.out hb1)
    have HGe := Aside0.mk (show W.heap.size ≤ g ∧ W.heap.size ≤ bb from by have := HB.out.size; omega)
    clear hc hb1 hg hbb HX HB
    go_wp2_with fail
    go_loopg [0, 5] (b.length + 2) (fun kq v0 v5 w' => ∃ (rest last : List UInt8) (M : CatM), v0 = .string (str rest) ∧ v5 = .string (str last) ∧ Aside0 (rest.length ≤ b.length ∧ rest.length + 2 ≤ kq) ∧ Aside0 (IsCat (fun _ => True) w' g bb M) ∧ Aside0 (Upto (tbs M) last) ∧ Aside0 (∃ k, rest.length < k ∧ outD (decA k rest last (tbs M)) = R) ∧ Aside0 (w'.heap[q]? = some (.cells #[.int .i64 0, .int .i64 0] 43 (0, 0))) ∧ Aside0 (Below W.heap.size W w'))
    case atStart => exact ⟨b, [], [], rfl, rfl, ⟨Nat.le_refl _, Nat.le_refl _⟩, HC, ⟨fun x hx => absurd hx (List.not_mem_nil)⟩, ⟨b.length + 1, by omega, HD.out⟩, HX1, HB1⟩
    case round =>
      clear HC HX1 HB1 HD
      obtain ⟨rest, last, M, rfl, rfl, HJ, HC, HU, HD, HX, HB⟩ := hrel
      obtain ⟨k, hk, hdec⟩ := HD.out
      obtain ⟨k1, rfl⟩ : ∃ k1, k = k1 + 1 := ⟨k - 1, by omega⟩
      rw [decA] at hdec
      cases rest with
      | nil =>
        rw [if_pos rfl] at hdec
        have HDe := Aside0.mk hdec
        have hs0 : str [] = ⟨#[]⟩ := rfl
        have c0 := (blk_cell HX.out 0).trans (show _ = some (Value.int .i64 0) from rfl)
        have c1 := (blk_cell HX.out 1).trans (show _ = some (Value.int .i64 0) from rfl)
        have f0 := blk_frozen HX.out 0
        have f1 := blk_frozen HX.out 1
        clear hdec
        go_wp2_with fail
        have hz := fault_set HX.out 0
        have HZ := Aside0.mk hz
        have HBz := Aside0.mk (below_set (below_set HB.out (show W.heap.size ≤ q from Nat.le_of_eq HQ.out) (j := 0) (v := .int .i64 0)) (show W.heap.size ≤ q from Nat.le_of_eq HQ.out) (j := 1) (v := .int .i64 0))
        have HCz := Aside0.mk (HC.out.keepTy (S := fun k => k = q) (q0 := 43) (((Fr.refl (fun k => k = q) wr).set (p := ⟨q, 0, none⟩) (.inl rfl) (.int .i64 0)).set (p := ⟨q, 1, none⟩) (.inl rfl) (.int .i64 0)) (fun k hk => ⟨_, by subst hk; exact HX.out⟩) (by decide))
        clear c0 c1 f0 f1 hz
        generalize (wr.setCell ⟨q, 0, none⟩ (.int .i64 0)).setCell ⟨q, 1, none⟩ (.int .i64 0) = w9 at *
        have z0 := (blk_cell HZ.out 0).trans (show _ = some (Value.int .i64 0) from rfl)
        have z1 := (blk_cell HZ.out 1).trans (show _ = some (Value.int .i64 0) from rfl)
        refine bodyPost_ret (v := .tuple #[.pointer (some ⟨g, 0, none⟩), .agg #[.int .i64 0, .int .i64 0]]) (by first | (go_simp; done) | (simp [results, Try.f14, go_sem, z0, z1]; done) | (simp [results, Try.f14, go_sem, z0, z1]; rfl)) rfl ?_
        refine ⟨?_, HBz.out⟩
        rw [← HDe.out]
        exact ⟨g, bb, M, rfl, HCz.out, rfl, HGe.out.1, HGe.out.2⟩
      | cons x0 r0 =>
        rw [if_neg (by simp)] at hdec
        obtain ⟨rest, hrest⟩ : ∃ rest, x0 :: r0 = rest := ⟨_, rfl⟩
        rw [hrest] at hdec hk
        have hne : ((str rest).toList == ([] : List UInt8)) = false := by rw [ByteArray.toList_eq, str_list, ← hrest]; rfl
        rw [hrest]
        obtain ⟨kq1, rfl⟩ : ∃ kq1, gk = kq1 + 1 := ⟨gk - 1, by have := HJ.out.2; omega⟩
        have hrl : rest.length ≤ b.length := by rw [← hrest]; exact HJ.out.1
        have HDc := Aside0.mk hdec
        have HRst := Aside0.mk hrest
        clear hdec hrest
        go_wp2_with fail
        clear hne
        refine (take_table_walk wr rest (by omega)).mono ?_
        obtain ⟨t, ht⟩ : ∃ t, (rT rest).1 = t := ⟨_, rfl⟩
        obtain ⟨⟨b2, bad2⟩, hs2⟩ : ∃ s2, (rT rest).2 = s2 := ⟨_, rfl⟩
        have htz := rT_sz rest (by omega)
        have hok := rtab_ok (s := ⟨rest, false⟩)
        rw [show rtab ⟨rest, false⟩ = rT rest from rfl] at hok
        have hd := HDc.out
        rw [ht, hs2] at hd ⊢
        rw [hs2] at hok
        rw [ht] at htz
        simp only at hok hd
        have HZ := Aside0.mk htz
        have HOk := Aside0.mk hok
        have HDd := Aside0.mk hd
        clear HDc htz hok hd ht hs2
        rintro e w2 ⟨v, rfl, hO, hb2⟩
        obtain ⟨A, ca, B, cb, rfl, q1, q2, q3, q4⟩ := hO.reads
        have hal := below_alloc (Below.refl w2.heap.size w2) (.cells #[.string t.nm, .slice A t.cols.length ca, .int .i64 t.key, .slice B t.ixs.length cb] 30)
        have hb3 := step hb2 hal
        have HC3 := Aside0.mk (HC.out.below hb3)
        have HX3 := Aside0.mk (blk_below HX.out hb3)
        have HB3 := Aside0.mk (step HB.out hb3)
        have HT3 := Aside0.mk (tbBox_made w2 (.string t.nm) (.slice A t.cols.length ca) (.int .i64 t.key) (.slice B t.ixs.length cb) 30)
        have HA3 := Aside0.mk (Kd.C_below q2 hal)
        have HE3 := Aside0.mk (Kd.C_below q4 hal)
        have HQ3 := Aside0.mk (show t.cols.length ≤ ca ∧ t.ixs.length ≤ cb from ⟨q1, q3⟩)
        clear q1 q2 q3 q4 hal hb3 hb2 hO
        obtain ⟨p, hp⟩ : ∃ p, w2.heap.size = p := ⟨_, rfl⟩
        rw [hp] at HT3
        go_upto_region 7 with fail
        clear hp
        generalize w2.alloc (.cells #[.string t.nm, .slice A t.cols.length ca, .int .i64 t.key, .slice B t.ixs.length cb] 30) = w3 at *
        cases bad2 with
        | true =>
          have HRN := Aside0.mk (show outD none = R from by rw [← HDd.out, if_pos (.inl rfl)])
          have c0 := (blk_cell HX3.out 0).trans (show _ = some (Value.int .i64 0) from rfl)
          have c1 := (blk_cell HX3.out 1).trans (show _ = some (Value.int .i64 0) from rfl)
          have f0 := blk_frozen HX3.out 0
          have f1 := blk_frozen HX3.out 1
          go_wp2_with fail
          have HZz := Aside0.mk (fault_set HX3.out 3)
          have HBz := Aside0.mk (below_set (below_set HB3.out (show W.heap.size ≤ q from Nat.le_of_eq HQ.out) (j := 0) (v := .int .i64 0)) (show W.heap.size ≤ q from Nat.le_of_eq HQ.out) (j := 1) (v := .int .i64 3))
          clear c0 c1 f0 f1
          generalize (w3.setCell ⟨q, 0, none⟩ (.int .i64 0)).setCell ⟨q, 1, none⟩ (.int .i64 3) = w9 at *
          have z0 := (blk_cell HZz.out 0).trans (show _ = some (Value.int .i64 0) from rfl)
          have z1 := (blk_cell HZz.out 1).trans (show _ = some (Value.int .i64 3) from rfl)
          refine bodyPost_ret (v := .tuple #[.pointer none, .agg #[.int .i64 0, .int .i64 3]]) (by first | (go_simp; done) | (simp [results, Try.f14, go_sem, z0, z1]; done) | (simp [results, Try.f14, go_sem, z0, z1]; rfl)) rfl ?_
          refine ⟨?_, HBz.out⟩
          rw [← HRN.out]
          exact rfl
        | false =>
          have t0 := HT3.out.c0
          have t1 := HT3.out.c1
          have t2 := HT3.out.c2
          have t3 := HT3.out.c3
          have ebl : Op.bytesLess t.nm.toList (str last).toList = bytesBefore t.nm.data.toList last := by rw [ByteArray.toList_eq, ByteArray.toList_eq, FL.before_eq]; rfl
          by_cases hlt : bytesBefore last t.nm.data.toList = true
          · have h1 : Op.bytesLess t.nm.toList (str last).toList = false := by
              rw [ebl]
              cases hb : bytesBefore t.nm.data.toList last with
              | false => rfl
              | true => have := bytes_trans _ _ _ hlt hb; rw [bytes_irrefl] at this; cases this
            have h2 : ¬ t.nm.toList = (str last).toList := fun e => by
              rw [ByteArray.toList_eq, ByteArray.toList_eq, str_list] at e
              rw [e, bytes_irrefl] at hlt
              cases hlt
            have h2b : (t.nm.toList == (str last).toList) = false := beq_eq_false_iff_ne.mpr h2
            clear ebl
            have HLt := Aside0.mk hlt
            have hsy := HC3.out.len_enc
            have hbf := HU.out.before hlt
            have hsays : Says M (tbs M) := ⟨fun x => ⟨fun hx => ⟨hx, hsy x hx⟩, fun hx => hx.1⟩, by unfold tbs; rw [List.length_map]; exact Nat.le_refl _⟩
            have hdn : ∀ x ∈ tbs M, x.nm ≠ t.nm := fun x hx e => by have := hbf x hx; rw [e, bytes_irrefl] at this; cases this
            have HSy := Aside0.mk hsy
            have HBf := Aside0.mk hbf
            have HSa := Aside0.mk hsays
            have HDn := Aside0.mk hdn
            clear hlt hsy hbf hsays hdn
            by_cases h4 : 4096 ≤ (tbs M).length
            · have HRN := Aside0.mk (show outD none = R from by rw [← HDd.out, if_pos (.inr (.inr (.inr h4)))])
              obtain ⟨cr, hcr⟩ : ∃ cr, crE M t = cr := ⟨_, rfl⟩
              have hcr0 : ¬ cr = 0 := by
                rw [← hcr]
                unfold crE
                rw [if_pos (show 4096 ≤ M.length by unfold tbs at h4; rwa [List.length_map] at h4)]
                split
                · split <;> decide
                · decide
              have HCr := Aside0.mk hcr
              have hcrb : (cr != 0) = true := by simpa using hcr0
              clear h4 hcr
              go_upto_region 8 with (go_at_call 9; refine (create_walk _ w3 g bb M HC3.out t A ca B cb HA3.out HQ3.out.1 HE3.out HQ3.out.2 HZ.out.nm HZ.out.cnm HZ.out.xnm HZ.out.cl HZ.out.il HZ.out.xl).mono ?_; rintro e w4 ⟨he, hf4, -⟩; rw [HCr.out] at he; subst he; have HX4 := Aside0.mk ((hf4.block q (blk_lt HX3.out) (q_ne HC3.out HX3.out)).trans HX3.out); have HB4 := Aside0.mk (hf4.below HB3.out fun k hk => by subst hk; exact HGe.out.2); clear hf4)
              have c0 := (blk_cell HX4.out 0).trans (show _ = some (Value.int .i64 0) from rfl)
              have c1 := (blk_cell HX4.out 1).trans (show _ = some (Value.int .i64 0) from rfl)
              have f0 := blk_frozen HX4.out 0
              have f1 := blk_frozen HX4.out 1
              go_wp2_with fail
              have HZz := Aside0.mk (fault_set HX4.out 3)
              have HBz := Aside0.mk (below_set (below_set HB4.out (show W.heap.size ≤ q from Nat.le_of_eq HQ.out) (j := 0) (v := .int .i64 0)) (show W.heap.size ≤ q from Nat.le_of_eq HQ.out) (j := 1) (v := .int .i64 3))
              clear c0 c1 f0 f1
              generalize (w4.setCell ⟨q, 0, none⟩ (.int .i64 0)).setCell ⟨q, 1, none⟩ (.int .i64 3) = w9 at *
              have z0 := (blk_cell HZz.out 0).trans (show _ = some (Value.int .i64 0) from rfl)
              have z1 := (blk_cell HZz.out 1).trans (show _ = some (Value.int .i64 3) from rfl)
              refine bodyPost_ret (v := .tuple #[.pointer none, .agg #[.int .i64 0, .int .i64 3]]) (by first | (go_simp; done) | (simp [results, Try.f14, go_sem, z0, z1]; done) | (simp [results, Try.f14, go_sem, z0, z1]; rfl)) rfl ?_
              refine ⟨?_, HBz.out⟩
              rw [← HRN.out]
              exact rfl
            · cases hck : chk t with
              | false =>
                have HRN := Aside0.mk (show outD none = R from by rw [← HDd.out, if_pos (.inr (.inr (.inl hck)))])
                have HCk := Aside0.mk hck
                clear hck
                go_upto_region 8 with (go_at_call 9; refine (cr_step w3 g bb M (tbs M) HC3.out HSa.out t A ca B cb HA3.out HQ3.out.1 HE3.out HQ3.out.2 HZ.out HDn.out (by omega)).mono ?_; rw [HCk.out]; rintro e w4 ⟨rfl, hf4, M4, hc4, hs4⟩; have HX4 := Aside0.mk ((hf4.block q (blk_lt HX3.out) (q_ne HC3.out HX3.out)).trans HX3.out); have HB4 := Aside0.mk (hf4.below HB3.out fun k hk => by subst hk; exact HGe.out.2); have HT4 := Aside0.mk (HT3.out.fr hf4 (tb_ne HC3.out HT3.out)); have HC4 := Aside0.mk hc4; have HS4 := Aside0.mk hs4; clear hf4 hc4 hs4)
                have c0 := (blk_cell HX4.out 0).trans (show _ = some (Value.int .i64 0) from rfl)
                have c1 := (blk_cell HX4.out 1).trans (show _ = some (Value.int .i64 0) from rfl)
                have f0 := blk_frozen HX4.out 0
                have f1 := blk_frozen HX4.out 1
                go_wp2_with fail
                have HZz := Aside0.mk (fault_set HX4.out 3)
                have HBz := Aside0.mk (below_set (below_set HB4.out (show W.heap.size ≤ q from Nat.le_of_eq HQ.out) (j := 0) (v := .int .i64 0)) (show W.heap.size ≤ q from Nat.le_of_eq HQ.out) (j := 1) (v := .int .i64 3))
                clear c0 c1 f0 f1
                generalize (w4.setCell ⟨q, 0, none⟩ (.int .i64 0)).setCell ⟨q, 1, none⟩ (.int .i64 3) = w9 at *
                have z0 := (blk_cell HZz.out 0).trans (show _ = some (Value.int .i64 0) from rfl)
                have z1 := (blk_cell HZz.out 1).trans (show _ = some (Value.int .i64 3) from rfl)
                refine bodyPost_ret (v := .tuple #[.pointer none, .agg #[.int .i64 0, .int .i64 3]]) (by first | (go_simp; done) | (simp [results, Try.f14, go_sem, z0, z1]; done) | (simp [results, Try.f14, go_sem, z0, z1]; rfl)) rfl ?_
                refine ⟨?_, HBz.out⟩
                rw [← HRN.out]
                exact rfl
              | true =>
                have hnx : outD (decA k1 b2 t.nm.data.toList (tbs M ++ [t])) = R := by rw [← HDd.out, if_neg (by rw [HLt.out, hck]; simp; omega)]
                have HNx := Aside0.mk hnx
                have HCk := Aside0.mk hck
                clear hck hnx
                go_upto_region 9 with (go_at_call 9; refine (cr_step w3 g bb M (tbs M) HC3.out HSa.out t A ca B cb HA3.out HQ3.out.1 HE3.out HQ3.out.2 HZ.out HDn.out (by omega)).mono ?_; rw [HCk.out]; rintro e w4 ⟨rfl, hf4, M4, hc4, hs4⟩; have HX4 := Aside0.mk ((hf4.block q (blk_lt HX3.out) (q_ne HC3.out HX3.out)).trans HX3.out); have HB4 := Aside0.mk (hf4.below HB3.out fun k hk => by subst hk; exact HGe.out.2); have HT4 := Aside0.mk (HT3.out.fr hf4 (tb_ne HC3.out HT3.out)); have HC4 := Aside0.mk hc4; have HS4 := Aside0.mk hs4; clear hf4 hc4 hs4)
                have v0 := HT4.out.c0
                have htb : tbs M4 = tbs M ++ [t] := by
                  refine tbs_ext (tbs_sorted HC4.out.st HC4.out.named) ?_ fun x => ?_
                  · rw [List.pairwise_append]
                    refine ⟨tbs_sorted HC3.out.st HC3.out.named, List.pairwise_singleton _ _, fun x hx y hy => ?_⟩
                    obtain rfl := List.mem_singleton.1 hy
                    exact HBf.out x hx
                  · rw [HS4.out.mem x, List.mem_append, List.mem_singleton, List.mem_cons]
                    constructor
                    · rintro ⟨rfl | h, -⟩
                      · exact .inr rfl
                      · exact .inl h
                    · rintro (h | rfl)
                      · exact ⟨.inr h, HSy.out x h⟩
                      · exact ⟨.inl rfl, HCk.out⟩
                have HTb := Aside0.mk htb
                have HLen := Aside0.mk (show b2.length + 8 ≤ rest.length from (HOk.out (by first | rfl | trivial)).2)
                have HRl := Aside0.mk (show rest.length + 2 ≤ kq1 + 1 from by rw [← HRst.out]; exact HJ.out.2)
                clear htb t0 t1 t2 t3 h1 h2 h2b
                go_wp2_with fail
                go_roundg kq1
                case measure => omega
                case rel => exact ⟨b2, t.nm.data.toList, M4, rfl, rfl, ⟨by have := HLen.out; omega, by have := HLen.out; have := HRl.out; omega⟩, HC4, ⟨by rw [HTb.out]; exact upto_add HU.out HLt.out⟩, ⟨k1, by have := HLen.out; omega, by rw [HTb.out]; exact HNx.out⟩, HX4, HB4⟩
          · have hlt : bytesBefore last t.nm.data.toList = false := by cases h : bytesBefore last t.nm.data.toList with | true => exact absurd h hlt | false => rfl
            have HRN := Aside0.mk (show outD none = R from by rw [← HDd.out, if_pos (.inr (.inl hlt))])
            have c0 := (blk_cell HX3.out 0).trans (show _ = some (Value.int .i64 0) from rfl)
            have c1 := (blk_cell HX3.out 1).trans (show _ = some (Value.int .i64 0) from rfl)
            have f0 := blk_frozen HX3.out 0
            have f1 := blk_frozen HX3.out 1
            by_cases he : t.nm.data.toList = last
            · have h1 : Op.bytesLess (str last).toList (str last).toList = false := by rw [← FL.before_eq, bytes_irrefl]
              have h2 : t.nm.toList = (str last).toList := by rw [ByteArray.toList_eq, ByteArray.toList_eq, he]; rfl
              clear ebl he hlt
              go_wp2_with fail
              have HZz := Aside0.mk (fault_set HX3.out 3)
              have HBz := Aside0.mk (below_set (below_set HB3.out (show W.heap.size ≤ q from Nat.le_of_eq HQ.out) (j := 0) (v := .int .i64 0)) (show W.heap.size ≤ q from Nat.le_of_eq HQ.out) (j := 1) (v := .int .i64 3))
              clear c0 c1 f0 f1
              generalize (w3.setCell ⟨q, 0, none⟩ (.int .i64 0)).setCell ⟨q, 1, none⟩ (.int .i64 3) = w9 at *
              have z0 := (blk_cell HZz.out 0).trans (show _ = some (Value.int .i64 0) from rfl)
              have z1 := (blk_cell HZz.out 1).trans (show _ = some (Value.int .i64 3) from rfl)
              refine bodyPost_ret (v := .tuple #[.pointer none, .agg #[.int .i64 0, .int .i64 3]]) (by first | (go_simp; done) | (simp [results, Try.f14, go_sem, z0, z1]; done) | (simp [results, Try.f14, go_sem, z0, z1]; rfl)) rfl ?_
              refine ⟨?_, HBz.out⟩
              rw [← HRN.out]
              exact rfl
            · have h1 : Op.bytesLess t.nm.toList (str last).toList = true := by
                rw [ebl]
                rcases bytes_total t.nm.data.toList last he with h | h
                · exact h
                · rw [hlt] at h; cases h
              clear ebl he hlt
              go_wp2_with fail
              have HZz := Aside0.mk (fault_set HX3.out 3)
              have HBz := Aside0.mk (below_set (below_set HB3.out (show W.heap.size ≤ q from Nat.le_of_eq HQ.out) (j := 0) (v := .int .i64 0)) (show W.heap.size ≤ q from Nat.le_of_eq HQ.out) (j := 1) (v := .int .i64 3))
              clear c0 c1 f0 f1
              generalize (w3.setCell ⟨q, 0, none⟩ (.int .i64 0)).setCell ⟨q, 1, none⟩ (.int .i64 3) = w9 at *
              have z0 := (blk_cell HZz.out 0).trans (show _ = some (Value.int .i64 0) from rfl)
              have z1 := (blk_cell HZz.out 1).trans (show _ = some (Value.int .i64 3) from rfl)
              refine bodyPost_ret (v := .tuple #[.pointer none, .agg #[.int .i64 0, .int .i64 3]]) (by first | (go_simp; done) | (simp [results, Try.f14, go_sem, z0, z1]; done) | (simp [results, Try.f14, go_sem, z0, z1]; rfl)) rfl ?_
              refine ⟨?_, HBz.out⟩
              rw [← HRN.out]
              exact rfl
end Go.Proofs.Ytjehbnhjaogfkaa.Sc
