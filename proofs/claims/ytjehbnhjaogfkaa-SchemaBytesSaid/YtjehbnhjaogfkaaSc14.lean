import Derived.Test.YtjehbnhjaogfkaaSc9
import Derived.Test.YtjehbnhjaogfkaaSc13
namespace Go.Proofs.Ytjehbnhjaogfkaa.Sc
open Go.RowKit Go.Lib Go.Proofs.YtjehbnhjaogfkaaW.PrintWords Go.Proofs.YtjehbnhjaogfkaaW.PrintLast Go.Proofs.YtjehbnhjaogfkaaW.PrintMore
open Go.Proofs.Ytjehbnhjaogfkaa
set_option linter.unusedVariables false
set_option linter.unusedSimpArgs false
theorem flatE_le {α : Type} (enc : α → List UInt8) (k : Nat) (l : List α) (h : ∀ x ∈ l, (enc x).length ≤ k) : (flatE enc l).length ≤ k * l.length := by
  induction l with
  | nil => simp [flatE]
  | cons x r ih =>
    have h1 := h x (List.mem_cons_self ..)
    have h2 := ih fun y hy => h y (List.mem_cons_of_mem _ hy)
    rw [flatE, List.length_append, List.length_cons, Nat.mul_succ]
    omega
theorem dist_ok {seen : List (List UInt8)} {l : List ByteArray} (h : dist seen l = true) : ∀ s ∈ l, nmOk s = true := by
  induction l generalizing seen with
  | nil => simp
  | cons x r ih =>
    intro s hs
    rw [dist_cons] at h
    split at h
    next hx =>
      rcases List.mem_cons.1 hs with rfl | hs
      · rw [Bool.and_eq_true] at hx; exact hx.1
      · exact ih h s hs
    next => cases h
theorem nmOk_size {s : ByteArray} (h : nmOk s = true) : s.size ≤ 32 := by
  unfold nmOk at h
  simp only [Bool.and_eq_true, decide_eq_true_eq] at h
  exact h.1.2
theorem chk_small {t : Tb} (h : chk t = true) : Small t ∧ (encT t).length ≤ 5000 := by
  obtain ⟨b1, b2, b3, b4⟩ := chk_bounds h
  have h' := h
  unfold chk ck2 ck1 ins at h
  simp only [Bool.and_eq_true, decide_eq_true_eq, List.all_eq_true] at h
  obtain ⟨⟨⟨⟨⟨⟨⟨_, h1⟩, h2⟩, _⟩, h3⟩, h4⟩, h5⟩, h6⟩ := h
  have hc : ∀ x ∈ t.cols, x.nm.size ≤ 32 := fun x hx => nmOk_size (dist_ok h3 _ (List.mem_map_of_mem hx))
  have hx : ∀ x ∈ t.ixs, x.nm.size ≤ 32 := fun x hx => nmOk_size (dist_ok h4 _ (List.mem_map_of_mem hx))
  have hk : ∀ x ∈ t.cols, inR x.kd := fun x hx => by
    have := h5 x hx
    unfold colOk ins at this
    simp only [Bool.and_eq_true, decide_eq_true_eq] at this
    unfold inR; omega
  have hi : ∀ x ∈ t.ixs, ∀ n ∈ x.cols, inR n := fun x hx n hn => by
    have := h6 x hx
    unfold ixOk ins at this
    simp only [Bool.and_eq_true, decide_eq_true_eq, List.all_eq_true] at this
    have := this.2 n hn
    unfold inR; omega
  refine ⟨⟨by omega, by unfold inR; omega, by omega, by omega, fun x h => ⟨by have := hc x h; omega, hk x h⟩, fun x h => ⟨by have := hx x h; omega, by have := b4 x h; omega, hi x h⟩⟩, ?_⟩
  rw [encT_len]
  have e1 := flatE_le encC 48 t.cols fun x h => by rw [encC_len]; have := hc x h; omega
  have e2 := flatE_le encX 305 t.ixs fun x h => by rw [encX_len]; have := hx x h; have := b4 x h; omega
  omega
/-- The schemas of a catalogue, in their names' order. -/
def tbs (M : CatM) : List Tb := M.map (·.2.2)
def encM (M : CatM) : List UInt8 := flatE encT (tbs M)
theorem IsCat.len_enc {ok : Nat → Prop} {W : World} {g b : Nat} {M : CatM} (h : IsCat ok W g b M) : ∀ x ∈ tbs M, chk x = true := fun x hx => by
  obtain ⟨p, hp, rfl⟩ := List.mem_map.1 hx
  exact (h.tb p hp).2.1
theorem conv_own {base : Nat} {W : World} {v : Value} {l : List UInt8} (h : W.ownsRow base 5 1 v l.length (bv l)) : (convert 74 9 v).run Try.prog W = .ok (.string ⟨l.toArray⟩) W := by
  rcases h.2 with ⟨rfl, hn⟩ | ⟨g', cap, cur, rfl, -⟩
  · obtain rfl : l = [] := List.length_eq_zero_iff.1 hn
    rw [run_convert_bytes_string W 74 9 5 none 0 0 Try.underlying74 Try.underlying5 Try.underlying9]
    simp [Conv.bytesToString]
    rfl
  · exact run_convert_bytes_back W 74 9 5 ⟨g', 0, none⟩ cap l Try.underlying74 Try.underlying5 Try.underlying9 fun j hj => by
      refine h.cells (g := g') rfl j _ ?_
      simp [bv, hj]
theorem conv_run {P : Program} {w : World} {o : Oper} {a : Act} {x : Operand} {s t : TypeId} {v y : Value} (ho : o.op = .convert s t x) (hx : a.eval x = v) (h : (convert s t v).run P w = .ok y w) : (execOp a.eval o).run P w = .ok (.value y) w := by
  simp [execOp, ho, hx, h, Result.andThen]
/-- What Encode tells. -/
def encR (M : CatM) : ByteArray × Int := if 262144 < (encM M).length then (⟨#[]⟩, 2) else (⟨(encM M).toArray⟩, 0)
theorem get_at {V : Type} {m : FM.T V} (hs : FL.St m) {j : Nat} (h : j < m.length) : FM.get m (m[j]).1 = some (m[j]).2 := by
  obtain ⟨u, hu, hm⟩ := FM.get_of_mem (show ((m[j]).1, (m[j]).2) ∈ m from List.getElem_mem h)
  rw [hu]
  obtain ⟨i, hi, he⟩ := List.getElem_of_mem hm
  have hk : (m[i]).1 = (m[j]).1 := by rw [he]
  have hij : i = j := by
    have hp := hs.nd
    unfold FL.Nd FM.keys at hp
    have hq : ∀ (a c : Nat) (ha : a < m.length) (hc : c < m.length), a < c → (m[a]).1 ≠ (m[c]).1 := fun a c ha hc hac => by
      have h1 := List.pairwise_iff_getElem.1 hp a c (by rw [List.length_map]; exact ha) (by rw [List.length_map]; exact hc) hac
      rw [List.getElem_map, List.getElem_map] at h1
      exact h1
    rcases Nat.lt_trichotomy i j with h1 | h1 | h1
    · exact absurd hk (hq i j hi h h1)
    · exact h1
    · exact absurd hk.symm (hq j i h hi h1)
  subst hij
  rw [he]
theorem nameL_at {V : Type} {m : FM.T V} (hs : FL.St m) : nameL m = m.map fun p => ⟨p.1.toArray⟩ := by
  unfold nameL
  rw [FL.names_keys hs]
  unfold FM.keys
  rw [List.map_map]; rfl
set_option maxRecDepth 100000 in
set_option maxHeartbeats 4000000 in
theorem encode_walk (ok : Nat → Prop) (W : World) (g b : Nat) (M : CatM) (h : IsCat ok W g b M) :
    Calls Try.prog 11 #[.pointer (some ⟨g, 0, none⟩)] W fun e W' => e = .returned (.tuple #[.string (encR M).1, .int .i64 (encR M).2]) ∧ Below W.heap.size W W' := by
  obtain ⟨R, hR0⟩ : ∃ R, encR M = R := ⟨_, rfl⟩
  have HR0 := Aside0.mk hR0
  rw [hR0]
  have HI := Aside0.mk h
  have c0 := h.cell
  have hlen := h.len
  clear h hR0
  go_enter Try.func11, Try.ntmps11
  go_upto_region 3 with (go_at_call 13; refine (names_walk ok _ g b M HI.out).mono ?_; rintro e w1 ⟨v, rfl, hrow, hb1⟩; rw [nameL_at HI.out.st] at hrow; simp only [List.length_map, List.map_map] at hrow; obtain ⟨A, c, rfl⟩ := own_shape hrow; have HR1 := Aside0.mk hrow; have HB1 := Aside0.mk hb1; clear hrow hb1)
  go_loopg [4, 10] (M.length + 1) (fun kq v4 v10 w' => ∃ j : Nat, v10 = .int .i64 (j : Int) ∧ Aside0 (j + kq = M.length + 1 ∧ j ≤ M.length) ∧ Aside0 (w'.ownsRow W.heap.size 5 1 v4 (flatE encT ((tbs M).take j)).length (bv (flatE encT ((tbs M).take j)))) ∧ Aside0 (w'.ownsRow W.heap.size 9 1 (.slice A M.length c) M.length (M.map (Value.string ∘ fun p => ⟨p.1.toArray⟩))) ∧ Aside0 (Below W.heap.size W w'))
  case atStart => exact ⟨0, rfl, ⟨by omega, Nat.zero_le _⟩, ⟨World.ownsRow_nil _ _ _ _⟩, HR1, HB1⟩
  case round =>
    clear HR1 HB1
    obtain ⟨j, rfl, HJ, HV, HR, HB⟩ := hrel
    have hbr := HB.out.size
    by_cases hj : j < M.length
    · obtain ⟨kq1, rfl⟩ : ∃ kq1, gk = kq1 + 1 := ⟨gk - 1, by have := HJ.out; omega⟩
      have hji : (j : Int) < (M.length : Int) := by omega
      have hr := HR.out
      rcases hr.2 with ⟨-, hn⟩ | ⟨gn, cap, cur, he, -⟩
      · omega
      obtain ⟨rfl, -, rfl⟩ := Value.slice.inj he
      have x0 : wr.cell? ((⟨gn, 0, none⟩ : Addr).add j) = some (.string ⟨(M[j]).1.toArray⟩) := hr.cells (g := gn) rfl j _ (by rw [List.getElem?_map, List.getElem?_eq_getElem hj]; rfl)
      have hI := HI.out.below HB.out
      have htb := hI.tb _ (List.getElem_mem hj)
      have hgm := get_at hI.st hj
      obtain ⟨p, hp⟩ : ∃ p, M[j] = p := ⟨_, rfl⟩
      have hft := flatE_take encT (tbs M) j (by unfold tbs; rw [List.length_map]; exact hj)
      have hen := flatE_le encT 5000 (tbs M) fun x hx => (chk_small (hI.len_enc x hx)).2
      have hpt : (tbs M)[j]'(by unfold tbs; rw [List.length_map]; exact hj) = p.2.2 := by unfold tbs; rw [List.getElem_map, hp]
      rw [hpt] at hft
      rw [hp] at x0 htb hgm
      obtain ⟨A', ca', B', cb', e, hca, hC, hcb, hC2⟩ := htb.2.2.reads
      obtain ⟨hsm, hel⟩ := chk_small htb.2.1
      have hk : (⟨p.1.toArray⟩ : ByteArray) = p.2.2.nm := by rw [htb.1]
      have hks : p.2.2.nm.size ≤ maxLen := by have := (chk_bounds htb.2.1).1; unfold maxLen; omega
      have hr := lookV_run b (mapV (·.1) M) hI.own p.2.2.nm hks
      rw [mapV_get, ← htb.1, hgm] at hr
      simp only [Option.map_some, Option.getD_some] at hr
      rw [e] at hr
      rw [hk, add_plain] at x0
      have c0r := hI.cell
      have HC := Aside0.mk hC
      have HC2 := Aside0.mk hC2
      have HCa := Aside0.mk hca
      have HCb := Aside0.mk hcb
      have HSm := Aside0.mk hsm
      have HEl := Aside0.mk hel
      have HFt := Aside0.mk hft
      have HHj := Aside0.mk hj
      have HEn := Aside0.mk (show (flatE encT (tbs M)).length ≤ 5000 * M.length from by have h1 := hen; unfold tbs at h1 ⊢; rw [List.length_map] at h1; exact h1)
      clear hC hC2 hca hcb hsm hel hft hen hpt hgm htb hks hk hj hI e hp he
      go_wp2_with fail
      clear x0 hr c0r
      refine (putTable_walk W.heap.size wr _ (flatE encT ((tbs M).take j)) p.2.2 A' ca' B' cb' HC.out HCa.out HC2.out HCb.out HSm.out (by have := HEl.out; omega) HV.out hbr (by have := HFt.out.2; have := HEn.out; omega)).mono ?_
      rintro e w2 ⟨v2, rfl, hv2, hb2, hf2⟩
      rw [← HFt.out.1] at hv2
      have HV2 := Aside0.mk hv2
      have HB2 := Aside0.mk (HB.out.trans hb2)
      have HR2 := Aside0.mk (own_move HR.out fun k hk => hf2.block k (by obtain ⟨cs, hc⟩ := own_typed HR.out k hk; exact blk_lt hc) fun e => by
        obtain ⟨cs, hc⟩ := own_typed HR.out k hk
        obtain ⟨cs', hc'⟩ := own_typed HV.out k e
        rw [hc] at hc'; injection hc' with hc'; injection hc' with _ hc'; exact absurd hc' (by decide))
      clear hv2 hb2 hf2
      go_wp2_with fail
      go_roundg kq1
      case measure => have := HJ.out; omega
      case rel => exact ⟨j + 1, by go_num, ⟨by have := HJ.out; omega, by have := HHj.out; omega⟩, HV2, HR2, HB2⟩
    · have hji : ¬ (j : Int) < (M.length : Int) := by omega
      have hjn : j = M.length := by have := HJ.out; omega
      subst hjn
      have hv := HV.out
      rw [List.take_of_length_le (by unfold tbs; rw [List.length_map]; exact Nat.le_refl _)] at hv
      have hconv := conv_own hv
      have hen := flatE_le encT 5000 (tbs M) fun x hx => (chk_small (HI.out.len_enc x hx)).2
      obtain ⟨A4, k4, rfl⟩ := own_shape hv
      obtain ⟨l, hl⟩ : ∃ l, flatE encT (tbs M) = l := ⟨_, rfl⟩
      have hR : R = if 262144 < l.length then (⟨#[]⟩, 2) else (⟨l.toArray⟩, 0) := by rw [← HR0.out]; unfold encR encM; rw [hl]
      rw [hl] at hconv
      by_cases hz : 262144 < l.length
      · have hz2 : (262144 : Int) < (l.length : Int) := by omega
        rw [if_pos hz] at hR
        have HRR := Aside0.mk hR
        clear hv hconv hR hen hz
        rw [hl]
        go_wp2_with fail
        go_ret2
        exact ⟨by rw [HRR.out]; rfl, HB.out⟩
      · have hz2 : ¬ (262144 : Int) < (l.length : Int) := by omega
        rw [if_neg hz] at hR
        have HRR := Aside0.mk hR
        have HCv := Aside0.mk hconv
        clear hv hconv hR hen hz
        rw [hl]
        go_wp2_with ((with_reducible refine gate_dst (N := 27) rfl ?_); refine Kd.event_run (v := .string ⟨l.toArray⟩) (w1 := wr) rfl (conv_run rfl rfl HCv.out) ?_)
        go_ret2
        exact ⟨by rw [HRR.out]; rfl, HB.out⟩
end Go.Proofs.Ytjehbnhjaogfkaa.Sc
