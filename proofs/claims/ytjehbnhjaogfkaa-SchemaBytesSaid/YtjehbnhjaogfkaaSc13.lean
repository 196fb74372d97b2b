import Derived.Test.YtjehbnhjaogfkaaSc12
namespace Go.Proofs.Ytjehbnhjaogfkaa.Sc
open Go.RowKit Go.Lib Go.Proofs.YtjehbnhjaogfkaaW.PrintWords Go.Proofs.YtjehbnhjaogfkaaW.PrintLast Go.Proofs.YtjehbnhjaogfkaaW.PrintMore
open Go.Proofs.Ytjehbnhjaogfkaa
set_option linter.unusedVariables false
set_option linter.unusedSimpArgs false
def encT (t : Tb) : List UInt8 := txt t.nm ++ (encL encC t.cols ++ (num8 t.key ++ encL encX t.ixs))
/-- May be told: sizes. -/
structure Small (t : Tb) : Prop where
  nm : t.nm.size ≤ 100000
  key : inR t.key
  cl : t.cols.length ≤ 4096
  il : t.ixs.length ≤ 4096
  cols : ∀ x ∈ t.cols, x.nm.size ≤ 100000 ∧ inR x.kd
  ixs : ∀ x ∈ t.ixs, x.nm.size ≤ 100000 ∧ x.cols.length ≤ 4096 ∧ ∀ n ∈ x.cols, inR n
theorem encT_len (t : Tb) : (encT t).length = 8 + t.nm.size + (8 + (flatE encC t.cols).length) + 8 + (8 + (flatE encX t.ixs).length) := by
  unfold encT; rw [List.length_append, List.length_append, List.length_append, txt_len, num8_len, encL_len, encL_len]; omega
set_option maxRecDepth 100000 in
set_option maxHeartbeats 4000000 in
theorem table_walk (w0 W : World) (g : Nat) (bs : List UInt8) (t : Tb) (A : Option Addr) (ca : Nat) (B : Option Addr) (cb : Nat) (hA : kcol.C w0 A t.cols.length t.cols) (hca : t.cols.length ≤ ca) (hB : kix.C w0 B t.ixs.length t.ixs) (hcb : t.ixs.length ≤ cb) (hS : Small t)
    (h : Wr w0.heap.size W g bs false) (hW : Below w0.heap.size w0 W) (hfit : bs.length + (encT t).length + 200 ≤ 65536) :
    Calls Try.prog 49 #[.pointer (some ⟨g, 0, none⟩), .agg #[.string t.nm, .slice A t.cols.length ca, .int .i64 t.key, .slice B t.ixs.length cb]] W fun e W' => e = .returned (.tuple #[]) ∧ Wr w0.heap.size W' g (bs ++ encT t) false ∧ KT w0.heap.size g W W' := by
  rw [encT_len] at hfit
  obtain ⟨nm, cols, key, ixs⟩ := t
  simp only at hA hca hB hcb hfit ⊢
  have HA := Aside0.mk hA
  have HB := Aside0.mk hB
  have HBB := Aside0.mk hW
  have hbs := hW.size
  have hgl := h.lt
  obtain ⟨s1, s2, s3, s4, s5, s6⟩ := hS
  simp only at s1 s2 s3 s4 s5 s6
  have S2 := Aside0.mk s2
  have S5 := Aside0.mk s5
  have S6 := Aside0.mk s6
  have H0 := Aside0.mk (h.below (below_alloc (Below.refl _ _) (.cells #[.string nm, .slice A cols.length ca, .int .i64 key, .slice B ixs.length cb] 30)))
  have K0 := Aside0.mk (KT.of_below (base := w0.heap.size) (g := g) (below_alloc (Below.refl _ W) (.cells #[.string nm, .slice A cols.length ca, .int .i64 key, .slice B ixs.length cb] 30)))
  have HX := Aside0.mk (heap_alloc_new W (.cells #[.string nm, .slice A cols.length ca, .int .i64 key, .slice B ixs.length cb] 30))
  have hbase1 : w0.heap.size ≤ (W.alloc (.cells #[.string nm, .slice A cols.length ca, .int .i64 key, .slice B ixs.length cb] 30)).heap.size := Nat.le_trans hbs K0.out.size
  clear hA hB h hW s2 s5 s6
  obtain ⟨b1, hb1⟩ : ∃ b1, b1 = bs ++ txt nm := ⟨_, rfl⟩
  have hb1l : b1.length = bs.length + (8 + nm.size) := by rw [hb1, List.length_append, txt_len]
  have HB1 := Aside0.mk hb1
  clear hb1
  obtain ⟨b2, hb2⟩ : ∃ b2, b2 = b1 ++ encL encC cols := ⟨_, rfl⟩
  have hb2l : b2.length = b1.length + (8 + (flatE encC cols).length) := by rw [hb2, List.length_append, encL_len]
  have HB2 := Aside0.mk hb2
  clear hb2
  obtain ⟨b3, hb3⟩ : ∃ b3, b3 = b2 ++ num8 key := ⟨_, rfl⟩
  have hb3l : b3.length = b2.length + 8 := by rw [hb3, List.length_append, num8_len]
  have HB3 := Aside0.mk hb3
  clear hb3
  go_enter Try.func49, Try.ntmps49
  go_wp2_with (first
    | (go_at_call 68; refine (text_walk _ _ g bs false nm H0.out hbase1 (by omega) (by omega)).mono ?_; rintro e w1 ⟨rfl, h1, hk1⟩; rw [← HB1.out] at h1; have b1' := hk1.cells HX.out (by decide) (by omega); have c1 : w1.cell? ⟨W.heap.size, 1, none⟩ = some (.slice A cols.length ca) := (blk_cell b1' 1).trans rfl; have H1 := Aside0.mk h1; have K1 := Aside0.mk (K0.out.trans hk1); have HX1 := Aside0.mk b1'; clear h1 hk1 b1')
    | (go_at_call 69; refine (listC_walk w0 _ g b1 A cols ca HA.out hca H1.out (K1.out.to_below HBB.out (.inr trivial) hbs) s3 S5.out (by rw [encL_len]; omega)).mono ?_; rintro e w2 ⟨rfl, h2, hk2⟩; rw [← HB2.out] at h2; have b2' := hk2.cells HX1.out (by decide) (by omega); have c2 : w2.cell? ⟨W.heap.size, 2, none⟩ = some (.int .i64 key) := (blk_cell b2' 2).trans rfl; have H2 := Aside0.mk h2; have K2 := Aside0.mk (K1.out.trans hk2); have HX2 := Aside0.mk b2'; clear h2 hk2 b2')
    | (go_at_call 70; refine (number_walk _ _ g b2 false key H2.out (Nat.le_trans hbs K2.out.size) (by omega) S2.out).mono ?_; rintro e w3 ⟨rfl, h3, hk3⟩; rw [← HB3.out] at h3; have b3' := hk3.cells HX2.out (by decide) (by omega); have c3 : w3.cell? ⟨W.heap.size, 3, none⟩ = some (.slice B ixs.length cb) := (blk_cell b3' 3).trans rfl; have H3 := Aside0.mk h3; have K3 := Aside0.mk (K2.out.trans hk3); clear h3 hk3 b3')
    | (go_at_call 71; refine (listX_walk w0 _ g b3 B ixs cb HB.out hcb H3.out (K3.out.to_below HBB.out (.inr trivial) hbs) s4 S6.out (by rw [encL_len]; omega)).mono ?_; rintro e w4 ⟨rfl, h4, hk4⟩; have H4 := Aside0.mk h4; have K4 := Aside0.mk (K3.out.trans hk4); clear h4 hk4))
  go_end0
  refine ⟨rfl, ?_, K4.out⟩
  have h4 := H4.out
  rw [HB3.out, HB2.out, HB1.out, List.append_assoc, List.append_assoc, List.append_assoc] at h4
  exact h4
set_option maxRecDepth 100000 in
set_option maxHeartbeats 4000000 in
theorem putTable_walk (base : Nat) (W : World) (v : Value) (pre : List UInt8) (t : Tb) (A : Option Addr) (ca : Nat) (B : Option Addr) (cb : Nat) (hA : kcol.C W A t.cols.length t.cols) (hca : t.cols.length ≤ ca) (hB : kix.C W B t.ixs.length t.ixs) (hcb : t.ixs.length ≤ cb) (hS : Small t) (hfit : (encT t).length + 200 ≤ 65536)
    (hv : W.ownsRow base 5 1 v pre.length (bv pre)) (hbase : base ≤ W.heap.size) (hl : pre.length ≤ 1000000000) :
    Calls Try.prog 29 #[v, .agg #[.string t.nm, .slice A t.cols.length ca, .int .i64 t.key, .slice B t.ixs.length cb]] W fun e W' => ∃ v', e = .returned v' ∧ W'.ownsRow base 5 1 v' (pre ++ encT t).length (bv (pre ++ encT t)) ∧ Below base W W' ∧ Fr (fun k => v.ownBlock = some k) W W' := by
  have HA := Aside0.mk hA
  have HB := Aside0.mk hB
  have HV := Aside0.mk hv
  have HS := Aside0.mk hS
  clear hA hB hv hS
  go_enter Try.func29, Try.ntmps29
  go_wp2_with fail
  have hW2 : Below W.heap.size W ((W.alloc (.cells #[.string t.nm, .slice A t.cols.length ca, .int .i64 t.key, .slice B t.ixs.length cb] 30)).alloc (.cells #[.slice none 0 0, .bool false] 103)) := below_alloc (below_alloc (Below.refl _ _) _) _
  have hWr : Wr W.heap.size ((W.alloc (.cells #[.string t.nm, .slice A t.cols.length ca, .int .i64 t.key, .slice B t.ixs.length cb] 30)).alloc (.cells #[.slice none 0 0, .bool false] 103)) (W.heap.size + 1) [] false := by
    refine ⟨Nat.le_succ _, .slice none 0 0, ?_, World.ownsRow_nil _ _ _ _⟩
    have h := heap_alloc_new (W.alloc (.cells #[.string t.nm, .slice A t.cols.length ca, .int .i64 t.key, .slice B t.ixs.length cb] 30)) (.cells #[.slice none 0 0, .bool false] 103)
    have e : (W.alloc (.cells #[.string t.nm, .slice A t.cols.length ca, .int .i64 t.key, .slice B t.ixs.length cb] 30)).heap.size = W.heap.size + 1 := by simp [World.alloc_eq]
    rw [e] at h
    exact h
  refine (table_walk W _ (W.heap.size + 1) [] t A ca B cb HA.out hca HB.out hcb HS.out hWr hW2 (by simp only [List.length_nil]; omega)).mono ?_
  rintro e w3 ⟨rfl, h3, hk3⟩
  rw [List.nil_append] at h3
  have hB3 := hk3.to_below hW2 (.inr trivial) hW2.size
  clear hWr hW2 hk3
  obtain ⟨kv, c0, hown⟩ := h3.cellv
  have hlen := encT_len t
  rcases hown.2 with ⟨-, hn⟩ | ⟨g', cap, cur, rfl, hg', -⟩
  · omega
  have HO := Aside0.mk hown
  have HV3 := Aside0.mk (pw_own_below HV.out hB3)
  have HB3 := Aside0.mk hB3
  have hbase3 : base ≤ w3.heap.size := Nat.le_trans hbase hB3.size
  have HN1 := Aside0.mk (show ∀ j u, (bv (encT t))[j]? = some u → w3.cell? ((⟨g', 0, none⟩ : Addr).add j) = some u from fun j u hu => hown.cells (g := g') rfl j u hu)
  have HL1 := Aside0.mk (show (bv (encT t)).length = (encT t).length * 1 from by rw [bv_len, Nat.mul_one])
  have HC1 := Aside0.mk (show ∀ u ∈ bv (encT t), u.oneCell' = true from fun u hu => by obtain ⟨b, -, rfl⟩ := List.mem_map.1 hu; rfl)
  obtain ⟨i0, hi, hzz⟩ := Option.map_eq_some_iff.1 info5
  simp only [Prod.mk.injEq] at hzz
  have HI := Aside0.mk hi
  have HZ := Aside0.mk hzz
  clear hown h3 hB3 hlen hi hzz
  go_wp2_with ((with_reducible refine gate_builtin (b := .append) (xs := #[.tmp 11, .tmp 15]) rfl ?_); at_builtin; (refine wpList_append_own _ rfl (.tmp 11) (.tmp 15) 74 rfl base 5 i0 (.int .u8 0) 1 1 Try.underlying74 HI.out HZ.out.1 HZ.out.2.1 HZ.out.2.2 rfl (by decide) v pre.length (bv pre) rfl HV3.out ⟨g', 0, none⟩ (encT t).length cap (bv (encT t)) rfl HL1.out HN1.out HC1.out (by unfold maxLen; omega) (by omega) hbase3 ?_); intro v1 w4 ho1 hg1 hz1; have HO1 := Aside0.mk ho1; have HG1 := Aside0.mk hg1; clear ho1 hg1 hz1)
  have ho1 := HO1.out
  rw [← bv_app, ← List.length_append] at ho1
  go_ret
  exact ⟨v1, rfl, ho1, (HB3.out.mono hbase).grown HG1.out hbase3 fun k hk => own_base HV3.out k hk, HG1.out.os.trans HB3.out.os, HG1.out.tape.trans HB3.out.tape, HG1.out.output.trans HB3.out.output, Nat.le_trans HB3.out.size HG1.out.size, fun k hk hn => (HG1.out.block k (Nat.lt_of_lt_of_le hk HB3.out.size) fun e => hn e.symm).trans (HB3.out.block k hk)⟩
end Go.Proofs.Ytjehbnhjaogfkaa.Sc
