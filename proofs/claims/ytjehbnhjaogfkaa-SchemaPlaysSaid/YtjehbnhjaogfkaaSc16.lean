import Derived.Test.YtjehbnhjaogfkaaSc15
namespace Go.Proofs.Ytjehbnhjaogfkaa.Sc
open Go.RowKit Go.Lib Go.Proofs.YtjehbnhjaogfkaaW.PrintWords Go.Proofs.YtjehbnhjaogfkaaW.PrintLast Go.Proofs.YtjehbnhjaogfkaaW.PrintMore
open Go.Proofs.Ytjehbnhjaogfkaa
set_option linter.unusedVariables false
set_option linter.unusedSimpArgs false
theorem cell_add0 {W : World} {b i : Nat} {v : Value} (h : W.cell? ⟨b, i, none⟩ = some v) : W.cell? ((⟨b, 0, none⟩ : Addr).add i) = some v := by rw [add_plain]; exact h
/-- The example lies at blocks z, z+1, z+2. -/
structure Ex (W : World) (z : Nat) : Prop where
  a : W.heap[z]? = some (.cells #[.string ⟨#[97]⟩, .int .i64 2, .string ⟨#[98]⟩, .int .i64 5] 32 (0, 0))
  n : W.heap[z + 1]? = some (.cells #[.int .i64 1] 3 (0, 0))
  x : W.heap[z + 2]? = some (.cells #[.string ⟨#[105]⟩, .slice (some ⟨z + 1, 0, none⟩) 1 1, .bool false] 67 (0, 0))
theorem Ex.below {W W1 : World} {z : Nat} (h : Ex W z) (hb : Below W.heap.size W W1) : Ex W1 z := ⟨blk_below h.a hb, blk_below h.n hb, blk_below h.x hb⟩
theorem blk_same {W W1 : World} {g : Nat} (h : W1.heap[g]? = W.heap[g]?) (i : Nat) : W1.cell? ⟨g, i, none⟩ = W.cell? ⟨g, i, none⟩ ∧ W1.frozen? ⟨g, i, none⟩ = W.frozen? ⟨g, i, none⟩ := by
  unfold World.cell? World.frozen?
  simp only [h]
  exact ⟨trivial, trivial⟩
theorem Ex.fr {S : Nat → Prop} {W W1 : World} {z : Nat} (h : Ex W z) (hf : Fr S W W1) (hs : ∀ k, S k → z + 2 < k) : Ex W1 z :=
  ⟨(hf.block z (blk_lt h.a) fun e => by have := hs _ e; omega).trans h.a, (hf.block (z + 1) (blk_lt h.n) fun e => by have := hs _ e; omega).trans h.n, (hf.block (z + 2) (blk_lt h.x) fun e => by have := hs _ e; omega).trans h.x⟩
theorem TbBox.fr {S : Nat → Prop} {W W1 : World} {g : Nat} {v0 v1 v2 v3 : Value} (h : TbBox W g v0 v1 v2 v3) (hf : Fr S W W1) (hs : ¬ S g) : TbBox W1 g v0 v1 v2 v3 := by
  have hb := hf.block g h.lt hs
  exact ⟨(blk_same hb 0).1.trans h.c0, (blk_same hb 1).1.trans h.c1, (blk_same hb 2).1.trans h.c2, (blk_same hb 3).1.trans h.c3, fun i => (blk_same hb i).2.trans (h.fz i)⟩
theorem Ex.cols {W : World} {z : Nat} (h : Ex W z) : kcol.C W (some ⟨z, 0, none⟩) 2 tw.cols := by
  refine ⟨rfl, by decide, fun _ => ⟨⟨z, 0, none⟩, rfl, fun j p hj => ?_⟩⟩
  obtain ⟨hl, hp⟩ := List.getElem?_eq_some_iff.1 hj
  have hl2 : j < 2 := hl
  refine ⟨[.string p.nm, .int .i64 p.kd], rfl, kcol_K.2 rfl, fun i u hu => ?_⟩
  have hi : i < 2 := by have := (List.getElem?_eq_some_iff.1 hu).1; simpa using this
  rcases (show j = 0 ∨ j = 1 by omega) with rfl | rfl <;> rcases (show i = 0 ∨ i = 1 by omega) with rfl | rfl <;> (obtain rfl := hp; obtain rfl := Option.some.inj hu)
  · exact cell_add0 ((blk_cell h.a 0).trans rfl)
  · exact cell_add0 ((blk_cell h.a 1).trans rfl)
  · exact cell_add0 ((blk_cell h.a 2).trans rfl)
  · exact cell_add0 ((blk_cell h.a 3).trans rfl)
theorem Ex.ixs {W : World} {z : Nat} (h : Ex W z) : kix.C W (some ⟨z + 2, 0, none⟩) 1 tw.ixs := by
  refine ⟨rfl, by decide, fun _ => ⟨⟨z + 2, 0, none⟩, rfl, fun j p hj => ?_⟩⟩
  obtain ⟨hl, hp⟩ := List.getElem?_eq_some_iff.1 hj
  have hl2 : j < 1 := hl
  obtain rfl : j = 0 := by omega
  obtain rfl := hp
  refine ⟨[.string ⟨#[105]⟩, .slice (some ⟨z + 1, 0, none⟩) 1 1, .bool false], rfl, kix_K.2 ⟨some ⟨z + 1, 0, none⟩, 1, rfl, (show 1 ≤ 1 from Nat.le_refl 1), ⟨rfl, (show 1 ≤ 9223372036854775807 from by decide), fun _ => ⟨⟨z + 1, 0, none⟩, rfl, fun j p hj => ?_⟩⟩⟩, fun i u hu => ?_⟩
  · obtain ⟨hl, hp⟩ := List.getElem?_eq_some_iff.1 hj
    have hl2 : j < 1 := hl
    obtain rfl : j = 0 := by omega
    obtain rfl := hp
    refine ⟨[.int .i64 1], rfl, rfl, fun i u hu => ?_⟩
    have hi : i < 1 := by have := (List.getElem?_eq_some_iff.1 hu).1; simpa using this
    obtain rfl : i = 0 := by omega
    obtain rfl := Option.some.inj hu
    exact cell_add0 ((blk_cell h.n 0).trans rfl)
  · have hi : i < 3 := by have := (List.getElem?_eq_some_iff.1 hu).1; simpa using this
    rcases (show i = 0 ∨ i = 1 ∨ i = 2 by omega) with rfl | rfl | rfl <;> obtain rfl := Option.some.inj hu
    · exact cell_add0 ((blk_cell h.x 0).trans rfl)
    · exact cell_add0 ((blk_cell h.x 1).trans rfl)
    · exact cell_add0 ((blk_cell h.x 2).trans rfl)
theorem ex_made (W : World) (z : Nat) (hz : W.heap.size = z) : Ex ((((W.alloc (.cells #[.string ⟨#[97]⟩, .int .i64 2, .string ⟨#[98]⟩, .int .i64 5] 32)).alloc (.cells #[.int .i64 1] 3)).alloc (.cells #[.string ⟨#[105]⟩, .slice (some ⟨z + 1, 0, none⟩) 1 1, .bool false] 67)).alloc (.cells #[.string ⟨#[116]⟩, .slice (some ⟨z, 0, none⟩) 2 2, .int .i64 1, .slice (some ⟨z + 1 + 1, 0, none⟩) 1 1] 30)) z ∧ TbBox ((((W.alloc (.cells #[.string ⟨#[97]⟩, .int .i64 2, .string ⟨#[98]⟩, .int .i64 5] 32)).alloc (.cells #[.int .i64 1] 3)).alloc (.cells #[.string ⟨#[105]⟩, .slice (some ⟨z + 1, 0, none⟩) 1 1, .bool false] 67)).alloc (.cells #[.string ⟨#[116]⟩, .slice (some ⟨z, 0, none⟩) 2 2, .int .i64 1, .slice (some ⟨z + 1 + 1, 0, none⟩) 1 1] 30)) (z + 1 + 1 + 1) (.string ⟨#[116]⟩) (.slice (some ⟨z, 0, none⟩) 2 2) (.int .i64 1) (.slice (some ⟨z + 1 + 1, 0, none⟩) 1 1) ∧ Below W.heap.size W ((((W.alloc (.cells #[.string ⟨#[97]⟩, .int .i64 2, .string ⟨#[98]⟩, .int .i64 5] 32)).alloc (.cells #[.int .i64 1] 3)).alloc (.cells #[.string ⟨#[105]⟩, .slice (some ⟨z + 1, 0, none⟩) 1 1, .bool false] 67)).alloc (.cells #[.string ⟨#[116]⟩, .slice (some ⟨z, 0, none⟩) 2 2, .int .i64 1, .slice (some ⟨z + 1 + 1, 0, none⟩) 1 1] 30)) := by
  subst hz
  have e0 := heap_alloc_new W (.cells #[.string ⟨#[97]⟩, .int .i64 2, .string ⟨#[98]⟩, .int .i64 5] 32)
  have e1 := heap_alloc_new (W.alloc (.cells #[.string ⟨#[97]⟩, .int .i64 2, .string ⟨#[98]⟩, .int .i64 5] 32)) (.cells #[.int .i64 1] 3)
  have e2 := heap_alloc_new ((W.alloc (.cells #[.string ⟨#[97]⟩, .int .i64 2, .string ⟨#[98]⟩, .int .i64 5] 32)).alloc (.cells #[.int .i64 1] 3)) (.cells #[.string ⟨#[105]⟩, .slice (some ⟨W.heap.size + 1, 0, none⟩) 1 1, .bool false] 67)
  have t := tbBox_made (((W.alloc (.cells #[.string ⟨#[97]⟩, .int .i64 2, .string ⟨#[98]⟩, .int .i64 5] 32)).alloc (.cells #[.int .i64 1] 3)).alloc (.cells #[.string ⟨#[105]⟩, .slice (some ⟨W.heap.size + 1, 0, none⟩) 1 1, .bool false] 67)) (.string ⟨#[116]⟩) (.slice (some ⟨W.heap.size, 0, none⟩) 2 2) (.int .i64 1) (.slice (some ⟨W.heap.size + 1 + 1, 0, none⟩) 1 1) 30
  have s1 : (W.alloc (.cells #[.string ⟨#[97]⟩, .int .i64 2, .string ⟨#[98]⟩, .int .i64 5] 32)).heap.size = W.heap.size + 1 := by simp [World.alloc_eq]
  have s2 : ((W.alloc (.cells #[.string ⟨#[97]⟩, .int .i64 2, .string ⟨#[98]⟩, .int .i64 5] 32)).alloc (.cells #[.int .i64 1] 3)).heap.size = W.heap.size + 1 + 1 := by simp [World.alloc_eq]
  have s3 : (((W.alloc (.cells #[.string ⟨#[97]⟩, .int .i64 2, .string ⟨#[98]⟩, .int .i64 5] 32)).alloc (.cells #[.int .i64 1] 3)).alloc (.cells #[.string ⟨#[105]⟩, .slice (some ⟨W.heap.size + 1, 0, none⟩) 1 1, .bool false] 67)).heap.size = W.heap.size + 1 + 1 + 1 := by simp [World.alloc_eq]
  rw [s1] at e1
  rw [s2] at e2
  rw [s3] at t
  refine ⟨⟨blk_below (blk_below (blk_below e0 (below_alloc (Below.refl _ _) _)) (below_alloc (Below.refl _ _) _)) (below_alloc (Below.refl _ _) _), blk_below (blk_below e1 (below_alloc (Below.refl _ _) _)) (below_alloc (Below.refl _ _) _), blk_below e2 (below_alloc (Below.refl _ _) _)⟩, t, below_alloc (below_alloc (below_alloc (below_alloc (Below.refl _ _) _) _) _) _⟩
/-- The example's catalogue: one schema. -/
theorem crE0 : crE [] tw = 0 := by kernel_rfl
theorem crE1 (v : Value) : crE (FM.put [] tw.nm.data.toList (v, tw)) tw = 6 := by kernel_rfl
theorem nameL1 (v : Value) (hs : FL.St (FM.put ([] : CatM) tw.nm.data.toList (v, tw))) : nameL (FM.put ([] : CatM) tw.nm.data.toList (v, tw)) = [⟨#[116]⟩] := by
  rw [nameL_at hs]; rfl
set_option maxRecDepth 100000 in
set_option maxHeartbeats 8000000 in
theorem works_walk (W : World) : Calls Try.prog 8 #[] W fun e w' => e = .returned (.bool true) ∧ Below W.heap.size W w' := by
  obtain ⟨z, hz⟩ : ∃ z, W.heap.size = z := ⟨_, rfl⟩
  have HZ := Aside0.mk hz
  have hex := ex_made W z hz
  have HX := Aside0.mk hex.1
  have HT := Aside0.mk hex.2.1
  have HB := Aside0.mk hex.2.2
  clear hex
  go_enter Try.func8, Try.ntmps8
  go_upto_region 2 with fail
  generalize ((((W.alloc (.cells #[.string ⟨#[97]⟩, .int .i64 2, .string ⟨#[98]⟩, .int .i64 5] 32)).alloc (.cells #[.int .i64 1] 3)).alloc (.cells #[.string ⟨#[105]⟩, .slice (some ⟨z + 1, 0, none⟩) 1 1, .bool false] 67)).alloc (.cells #[.string ⟨#[116]⟩, .slice (some ⟨z, 0, none⟩) 2 2, .int .i64 1, .slice (some ⟨z + 1 + 1, 0, none⟩) 1 1] 30)) = W4 at *
  clear hz
  have HL := Aside0.mk HB.out.size
  go_upto_region 3 with (go_at_call 7; refine (new_walk _).mono ?_; rintro e w5 ⟨rfl, hc, hb⟩; have HC := Aside0.mk hc; have HX5 := Aside0.mk (HX.out.below hb); have HT5 := Aside0.mk (HT.out.keep hb HT.out.lt); have HB5 := Aside0.mk (step HB.out hb); clear hc hb)
  have t0 := HT5.out.c0
  have t1 := HT5.out.c1
  have t2 := HT5.out.c2
  have t3 := HT5.out.c3
  generalize hg : W4.heap.size + 1 = g at *
  have HLg := Aside0.mk hg
  clear hg
  obtain ⟨b, hb⟩ : ∃ b, W4.heap.size = b := ⟨_, rfl⟩
  rw [hb] at HC
  have HLb := Aside0.mk hb
  clear hb
  have HBz := Aside0.mk (show z + 1 + 1 + 1 < b from by have := HT.out.lt; have := HLb.out; omega)
  have HWb := Aside0.mk (show W.heap.size ≤ b from by have := HL.out; have := HLb.out; omega)
  clear HX HT HB HL
  go_upto_region 5 with (first
    | (go_at_call 9; refine (create_walk _ _ g b _ HC6.out tw (some ⟨z, 0, none⟩) 2 (some ⟨z + 2, 0, none⟩) 1 HX6.out.cols (Nat.le_refl _) HX6.out.ixs (Nat.le_refl _) (by decide) (by decide) (by decide) (by decide) (by decide) (by decide)).mono ?_; rintro e w7 ⟨he, hf, hq⟩; rw [crE1] at he hq; subst he; rw [if_neg (by decide)] at hq; have HC7 := Aside0.mk hq; have HX7 := Aside0.mk (HX6.out.fr hf fun k hk => by have := HBz.out; omega); have HT7 := Aside0.mk (HT6.out.fr hf fun e => by have := HBz.out; omega); have HB7 := Aside0.mk (hf.below HB6.out fun k hk => by subst hk; exact HWb.out); clear hf hq)
    | (go_at_call 9; refine (create_walk _ _ g b [] HC.out tw (some ⟨z, 0, none⟩) 2 (some ⟨z + 2, 0, none⟩) 1 HX5.out.cols (Nat.le_refl _) HX5.out.ixs (Nat.le_refl _) (by decide) (by decide) (by decide) (by decide) (by decide) (by decide)).mono ?_; rintro e w6 ⟨he, hf, hq⟩; rw [crE0] at he hq; subst he; rw [if_pos rfl] at hq; obtain ⟨v1, hc⟩ := hq; have HC6 := Aside0.mk hc; have HX6 := Aside0.mk (HX5.out.fr hf fun k hk => by have := HBz.out; omega); have HT6 := Aside0.mk (HT5.out.fr hf fun e => by have := HBz.out; omega); have HB6 := Aside0.mk (hf.below HB5.out fun k hk => by subst hk; exact HWb.out); have u0 := HT6.out.c0; have u1 := HT6.out.c1; have u2 := HT6.out.c2; have u3 := HT6.out.c3; clear hc hf))
  go_upto_region 6 with (go_at_call 13; refine (names_walk _ _ g b _ HC7.out).mono ?_; rintro e w8 ⟨v, rfl, hrow, hb8⟩; rw [nameL1 v1 HC7.out.st] at hrow; have hrow : w8.ownsRow w7.heap.size 9 1 v 1 [.string ⟨#[116]⟩] := hrow; have HRow := Aside0.mk hrow; have HX8 := Aside0.mk (HX7.out.below hb8); have HT8 := Aside0.mk (HT7.out.keep hb8 HT7.out.lt); have HB8 := Aside0.mk (step HB7.out hb8); clear hrow hb8)
  have hr := HRow.out
  rcases hr.2 with ⟨-, hn⟩ | ⟨gn, cap, cur, rfl, -, -, hle, -⟩
  · cases hn
  have x0 : w8.cell? ⟨gn, 0, none⟩ = some (.string ⟨#[116]⟩) := by
    have h := hr.cells (g := gn) rfl 0 _ rfl
    rw [add_plain] at h
    exact h
  have p0 := HT8.out.c0
  have p1 := HT8.out.c1
  have p2 := HT8.out.c2
  have p3 := HT8.out.c3
  have hba := below_alloc (Below.refl w8.heap.size w8) (.cells #[.int .i64 2, .int .i64 5, .complex .f64 0 0, .string ⟨#[]⟩, .int .i64 0, .int .i64 0, .complex .f64 0 0, .string ⟨#[]⟩] 71)
  have HXa := Aside0.mk (HX8.out.below hba)
  have HTa := Aside0.mk (HT8.out.keep hba HT8.out.lt)
  have HBa := Aside0.mk (step HB8.out hba)
  clear hr t0 t1 t2 t3 u0 u1 u2 u3 hba
  go_wp2_with (first
    | (go_at_call 27; refine (fits_walk 0 0 (.inr ⟨rfl, rfl⟩) _ z ⟨z + 2, 0, none⟩ HXb.out.a HXb.out.cols HXb.out.ixs _ (heap_alloc_new _ _)).mono ?_; rintro e w10 ⟨rfl, hb⟩; have HB10 := Aside0.mk (step HBb.out hb); clear hb)
    | (go_at_call 27; refine (fits_walk 2 5 (.inl ⟨rfl, rfl⟩) _ z ⟨z + 2, 0, none⟩ HXa.out.a HXa.out.cols HXa.out.ixs _ (heap_alloc_new _ _)).mono ?_; rintro e w9 ⟨rfl, hb⟩; have HX9 := HXa.out.below hb; have ht9 := HTa.out.keep hb HTa.out.lt; have HB9 := step HBa.out hb; have s0 := ht9.c0; have s1 := ht9.c1; have s2 := ht9.c2; have s3 := ht9.c3; have hbb := below_alloc (Below.refl w9.heap.size w9) (.cells #[.int .i64 0, .int .i64 0, .complex .f64 0 0, .string ⟨#[]⟩, .int .i64 0, .int .i64 0, .complex .f64 0 0, .string ⟨#[]⟩] 71); have HXb := Aside0.mk (HX9.below hbb); have HBb := Aside0.mk (step HB9 hbb); clear hb HX9 ht9 HB9 hbb))
  go_ret
  exact ⟨rfl, HB10.out⟩
end Go.Proofs.Ytjehbnhjaogfkaa.Sc
