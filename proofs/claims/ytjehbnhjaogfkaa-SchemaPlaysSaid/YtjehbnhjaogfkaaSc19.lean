import Derived.Test.YtjehbnhjaogfkaaSc18
namespace Go.Proofs.Ytjehbnhjaogfkaa.Sc
open Go.RowKit Go.Lib Go.Maps Go.WideAt Go.WideShapes Go.Proofs.YtjehbnhjaogfkaaW.PrintWords Go.Proofs.YtjehbnhjaogfkaaW.PrintLast Go.Proofs.YtjehbnhjaogfkaaW.PrintMore
open Go.Proofs.Ytjehbnhjaogfkaa
set_option linter.unusedVariables false
set_option linter.unusedSimpArgs false
/-- The schemas that were taken: of distinct names, each seen, none the one to drop. -/
structure Kept (l L : List Tb) (drop : ByteArray) (m : FM.T Value) (i : Nat) : Prop where
  mem : ∀ t ∈ L, t ∈ l
  ne : ∀ t ∈ L, t.nm ≠ drop
  nd : (L.map (·.nm)).Nodup
  seen : ∀ t ∈ L, FM.get m t.nm.data.toList = some (.bool true)
  vals : ∀ k v, FM.get m k = some v → v = .bool true
  ln : L.length ≤ i
  ml : m.length ≤ i
theorem kept_nil (l : List Tb) (drop : ByteArray) : Kept l [] drop [] 0 := ⟨by simp, by simp, by simp, by simp, fun k v h => by simp [FM.get] at h, Nat.le_refl _, Nat.le_refl _⟩
theorem kept_seen {l L : List Tb} {drop : ByteArray} {m : FM.T Value} {i : Nat} (h : Kept l L drop m i) (s : ByteArray) : Kept l L drop (FM.put m s.data.toList (.bool true)) (i + 1) := by
  refine ⟨h.mem, h.ne, h.nd, fun t ht => ?_, fun k v hk => ?_, by have := h.ln; omega, by have := FM.len_put_new m s.data.toList (.bool true); have := h.ml; omega⟩
  · by_cases e : s.data.toList = t.nm.data.toList
    · rw [e, FM.get_put_same]
    · rw [FM.get_put_other _ _ e, h.seen t ht]
  · by_cases e : s.data.toList = k
    · rw [e, FM.get_put_same] at hk; exact (Option.some.inj hk).symm
    · rw [FM.get_put_other _ _ e] at hk; exact h.vals k v hk
theorem kept_add {l L : List Tb} {drop : ByteArray} {m : FM.T Value} {i : Nat} (h : Kept l L drop m i) (t : Tb) (ht : t ∈ l) (hn : t.nm ≠ drop) (hs : FM.get m t.nm.data.toList = none) : Kept l (L ++ [t]) drop (FM.put m t.nm.data.toList (.bool true)) (i + 1) := by
  have h2 := kept_seen h t.nm
  have hfr : ∀ x ∈ L, x.nm ≠ t.nm := fun x hx e => by have := h.seen x hx; rw [e, hs] at this; cases this
  refine ⟨fun x hx => ?_, fun x hx => ?_, ?_, fun x hx => ?_, h2.vals, by rw [List.length_append]; have := h.ln; simp; omega, h2.ml⟩
  · rcases List.mem_append.1 hx with hx | hx
    · exact h.mem x hx
    · obtain rfl := List.mem_singleton.1 hx; exact ht
  · rcases List.mem_append.1 hx with hx | hx
    · exact h.ne x hx
    · obtain rfl := List.mem_singleton.1 hx; exact hn
  · rw [List.map_append, List.nodup_append]
    refine ⟨h.nd, by simp, fun a ha b hb e => ?_⟩
    obtain ⟨x, hx, rfl⟩ := List.mem_map.1 ha
    simp only [List.map_cons, List.map_nil, List.mem_singleton] at hb
    exact hfr x hx (e.trans hb)
  · rcases List.mem_append.1 hx with hx | hx
    · exact h2.seen x hx
    · obtain rfl := List.mem_singleton.1 hx
      rw [FM.get_put_same]
theorem kept_look {l L : List Tb} {drop : ByteArray} {m : FM.T Value} {i : Nat} (h : Kept l L drop m i) (k : FM.Key) : (FM.get m k).getD (.bool false) = .bool (FM.get m k).isSome := by
  cases hg : FM.get m k with
  | none => rfl
  | some v => rw [h.vals k v hg]; rfl
/-- A table in a row that can be read. -/
theorem tb_at {W : World} {A : Option Addr} {n : Nat} {l : List Tb} (h : ktb.C W A n l) (i : Nat) (hi : i < l.length) : ∃ ad B cb D cd, A = some ad ∧ W.cell? (ad.add (i * 4)) = some (.string (l[i]).nm) ∧ W.cell? (ad.add (i * 4 + 1)) = some (.slice B (l[i]).cols.length cb) ∧ W.cell? (ad.add (i * 4 + 2)) = some (.int .i64 (l[i]).key) ∧ W.cell? (ad.add (i * 4 + 3)) = some (.slice D (l[i]).ixs.length cd) ∧
    (l[i]).cols.length ≤ cb ∧ kcol.C W B (l[i]).cols.length (l[i]).cols ∧ (l[i]).ixs.length ≤ cd ∧ kix.C W D (l[i]).ixs.length (l[i]).ixs := by
  obtain ⟨ad, e, hc⟩ := h.2.2 (by have := h.1; omega)
  obtain ⟨c, hl, hK, hcell⟩ := hc i _ (List.getElem?_eq_getElem hi)
  obtain ⟨B, cb, D, cd, rfl, h1, h2, h3, h4⟩ := ktb_K.1 hK
  exact ⟨ad, B, cb, D, cd, e, hcell 0 _ rfl, hcell 1 _ rfl, hcell 2 _ rfl, hcell 3 _ rfl, h1, h2, h3, h4⟩
/-- The two catalogues, side by side. -/
structure Duo (W w : World) (ga ba gb bb : Nat) (P Q : List Tb) : Prop where
  a : ∃ M, IsCat (fun _ => True) w ga ba M ∧ Says M P
  b : ∃ M, IsCat (fun _ => True) w gb bb M ∧ Says M Q
  ne : ba ≠ bb
  ha : W.heap.size ≤ ba
  hb : W.heap.size ≤ bb
  below : Below W.heap.size W w
theorem Duo.keep {W w w1 : World} {ga ba gb bb : Nat} {P Q : List Tb} (h : Duo W w ga ba gb bb P Q) (hb : Below w.heap.size w w1) : Duo W w1 ga ba gb bb P Q := by
  obtain ⟨Ma, h1, h2⟩ := h.a
  obtain ⟨Mb, h3, h4⟩ := h.b
  exact ⟨⟨Ma, h1.below hb, h2⟩, ⟨Mb, h3.below hb, h4⟩, h.ne, h.ha, h.hb, step h.below hb⟩
theorem tl_ne {x y : ByteArray} (h : x ≠ y) : (x.toList == y.toList) = false := by
  refine beq_eq_false_iff_ne.mpr fun e => h ?_
  rw [ByteArray.toList_eq, ByteArray.toList_eq] at e
  exact ba_ext e
/-- What the example's other schema reads as. -/
def exT (drop : ByteArray) : Tb := ⟨drop, [⟨⟨#[97]⟩, 2⟩], 1, []⟩
theorem exT_cols {W : World} {z : Nat} (h : W.heap[z]? = some (.cells #[.string ⟨#[97]⟩, .int .i64 2] 32 (0, 0))) : kcol.C W (some ⟨z, 0, none⟩) 1 [⟨⟨#[97]⟩, 2⟩] := by
  refine ⟨rfl, by decide, fun _ => ⟨⟨z, 0, none⟩, rfl, fun j p hj => ?_⟩⟩
  obtain ⟨hl, hp⟩ := List.getElem?_eq_some_iff.1 hj
  have hl2 : j < 1 := hl
  obtain rfl : j = 0 := by omega
  obtain rfl := hp
  refine ⟨[.string ⟨#[97]⟩, .int .i64 2], rfl, kcol_K.2 rfl, fun i u hu => ?_⟩
  have hi : i < 2 := by have := (List.getElem?_eq_some_iff.1 hu).1; simpa using this
  rcases (show i = 0 ∨ i = 1 by omega) with rfl | rfl <;> obtain rfl := Option.some.inj hu
  · exact cell_add0 ((blk_cell h 0).trans rfl)
  · exact cell_add0 ((blk_cell h 1).trans rfl)
theorem exT_sz {drop : ByteArray} (h : drop.size ≤ maxLen) : TSz (exT drop) := by
  refine ⟨h, fun x hx => ?_, fun x hx => ?_, ?_, ?_, fun x hx => ?_⟩
  · obtain rfl := List.mem_singleton.1 (show x ∈ [(⟨⟨#[97]⟩, 2⟩ : Col)] from hx); decide
  · exact absurd hx (List.not_mem_nil)
  · exact (show 1 ≤ 140737488355328 from by decide)
  · exact (show 0 ≤ 140737488355328 from by decide)
  · exact absurd hx (List.not_mem_nil)
/-- A member of a row of schemas that lie elsewhere. -/
theorem trow_at {W w : World} {A : Option Addr} {n : Nat} {L : List Tb} (h : (kfr ktb W).C w A n L) (i : Nat) (hi : i < L.length) : ∃ ad B cb D cd, A = some ad ∧ w.cell? (ad.add (i * 4)) = some (.string (L[i]).nm) ∧ w.cell? (ad.add (i * 4 + 1)) = some (.slice B (L[i]).cols.length cb) ∧ w.cell? (ad.add (i * 4 + 2)) = some (.int .i64 (L[i]).key) ∧ w.cell? (ad.add (i * 4 + 3)) = some (.slice D (L[i]).ixs.length cd) ∧
    (L[i]).cols.length ≤ cb ∧ kcol.C W B (L[i]).cols.length (L[i]).cols ∧ (L[i]).ixs.length ≤ cd ∧ kix.C W D (L[i]).ixs.length (L[i]).ixs := by
  obtain ⟨ad, e, hc⟩ := h.2.2 (by have := h.1; omega)
  obtain ⟨c, hl, hK, hcell⟩ := hc i _ (List.getElem?_eq_getElem hi)
  obtain ⟨B, cb, D, cd, rfl, h1, h2, h3, h4⟩ := ktb_K.1 hK
  exact ⟨ad, B, cb, D, cd, e, hcell 0 _ rfl, hcell 1 _ rfl, hcell 2 _ rfl, hcell 3 _ rfl, h1, h2, h3, h4⟩
theorem nd_at {L : List Tb} (h : (L.map (·.nm)).Nodup) {i j : Nat} (hi : i < L.length) (hj : j < L.length) (e : (L[i]).nm = (L[j]).nm) : i = j := by
  have hq : ∀ (a c : Nat) (ha : a < L.length) (hc : c < L.length), a < c → (L[a]).nm ≠ (L[c]).nm := fun a c ha hc hac => by
    have h1 := List.pairwise_iff_getElem.1 h a c (by rw [List.length_map]; exact ha) (by rw [List.length_map]; exact hc) hac
    rw [List.getElem_map, List.getElem_map] at h1
    exact h1
  rcases Nat.lt_trichotomy i j with h1 | h1 | h1
  · exact absurd e (hq i j hi hj h1)
  · exact h1
  · exact absurd e.symm (hq j i hj hi h1)
theorem nd_take {L : List Tb} (h : (L.map (·.nm)).Nodup) {j : Nat} (hj : j < L.length) : ∀ x ∈ L.take j, x.nm ≠ (L[j]).nm := fun x hx e => by
  obtain ⟨i, hi, rfl⟩ := List.getElem_of_mem hx
  rw [List.length_take] at hi
  rw [List.getElem_take] at e
  have := nd_at h (by omega) hj e
  omega
theorem nd_drop {L : List Tb} (h : (L.map (·.nm)).Nodup) {j : Nat} (hj : j < L.length) : ∀ x ∈ L.drop (j + 1), x.nm ≠ (L[j]).nm := fun x hx e => by
  obtain ⟨i, hi, rfl⟩ := List.getElem_of_mem hx
  rw [List.length_drop] at hi
  rw [List.getElem_drop] at e
  have := nd_at h (by omega) hj e
  omega
theorem exT_made (W : World) (z : Nat) (drop : ByteArray) (hz : W.heap.size = z) : ((W.alloc (.cells #[.string ⟨#[97]⟩, .int .i64 2] 32)).alloc (.cells #[.string drop, .slice (some ⟨z, 0, none⟩) 1 1, .int .i64 1, .slice none 0 0] 30)).heap[z]? = some (.cells #[.string ⟨#[97]⟩, .int .i64 2] 32 (0, 0)) ∧ TbBox ((W.alloc (.cells #[.string ⟨#[97]⟩, .int .i64 2] 32)).alloc (.cells #[.string drop, .slice (some ⟨z, 0, none⟩) 1 1, .int .i64 1, .slice none 0 0] 30)) (z + 1) (.string drop) (.slice (some ⟨z, 0, none⟩) 1 1) (.int .i64 1) (.slice none 0 0) ∧ Below W.heap.size W ((W.alloc (.cells #[.string ⟨#[97]⟩, .int .i64 2] 32)).alloc (.cells #[.string drop, .slice (some ⟨z, 0, none⟩) 1 1, .int .i64 1, .slice none 0 0] 30)) := by
  subst hz
  have e0 := heap_alloc_new W (.cells #[.string ⟨#[97]⟩, .int .i64 2] 32)
  have t := tbBox_made (W.alloc (.cells #[.string ⟨#[97]⟩, .int .i64 2] 32)) (.string drop) (.slice (some ⟨W.heap.size, 0, none⟩) 1 1) (.int .i64 1) (.slice none 0 0) 30
  have s1 : (W.alloc (.cells #[.string ⟨#[97]⟩, .int .i64 2] 32)).heap.size = W.heap.size + 1 := by simp [World.alloc_eq]
  rw [s1] at t
  exact ⟨blk_below e0 (below_alloc (Below.refl _ _) _), t, below_alloc (below_alloc (Below.refl _ _) _) _⟩
theorem ownV_map {W : World} {b : Nat} {m : FM.T Value} (h : OwnV W b m) : ∃ es cl, W.heap[b]? = some (.map es cl) := by
  obtain ⟨es, cl, hb, -⟩ := h
  exact ⟨es, cl, hb⟩
theorem IsCat.otherV {ok : Nat → Prop} {W W1 : World} {g b b' : Nat} {M : CatM} {m : FM.T Value} (h : IsCat ok W g b M) (h' : OwnV W b' m) (hf : Fr (fun k => k = b') W W1) (hb : b ≠ b') : IsCat ok W1 g b M := by
  obtain ⟨es, cl, hbb⟩ := ownV_map h'
  have hg : ¬ g = b' := fun e => by have := h.blk; rw [e, hbb] at this; cases this
  refine ⟨(hf.block g h.lt.1 hg).trans h.blk, ownV_move h.own (hf.block b h.lt.2 hb), fun p hp => ⟨(h.tb p hp).1, (h.tb p hp).2.1, (h.tb p hp).2.2.move fun k hk hlt hc => hf.block k hlt fun e => ?_⟩, h.st, h.len⟩
  obtain ⟨q, cells, -, hc⟩ := hc
  rw [e, hbb] at hc
  cases hc
theorem Duo.lt {W w : World} {ga ba gb bb : Nat} {P Q : List Tb} (h : Duo W w ga ba gb bb P Q) : ba < w.heap.size ∧ bb < w.heap.size ∧ ga < w.heap.size ∧ gb < w.heap.size := by
  obtain ⟨Ma, h1, h2⟩ := h.a
  obtain ⟨Mb, h3, h4⟩ := h.b
  exact ⟨h1.lt.2, h3.lt.2, h1.lt.1, h3.lt.1⟩
theorem Duo.seen {W w w1 : World} {ga ba gb bb sb : Nat} {P Q : List Tb} {m : FM.T Value} (h : Duo W w ga ba gb bb P Q) (ho : OwnV w sb m) (hf : Fr (fun k => k = sb) w w1) (n1 : ba < sb) (n2 : bb < sb) : Duo W w1 ga ba gb bb P Q := by
  obtain ⟨Ma, h1, h2⟩ := h.a
  obtain ⟨Mb, h3, h4⟩ := h.b
  exact ⟨⟨Ma, h1.otherV ho hf (by omega), h2⟩, ⟨Mb, h3.otherV ho hf (by omega), h4⟩, h.ne, h.ha, h.hb, hf.below h.below fun k hk => by subst hk; have := h.ha; omega⟩
/-- What Create tells of a schema of a new name. -/
def crv (c : Bool) : Int := if c then 0 else 140
theorem duo_a (W w : World) (ga ba gb bb : Nat) (P Q : List Tb) (h : Duo W w ga ba gb bb P Q) (t : Tb) (A : Option Addr) (ca : Nat) (B : Option Addr) (cb : Nat) (hA : kcol.C w A t.cols.length t.cols) (hca : t.cols.length ≤ ca) (hB : kix.C w B t.ixs.length t.ixs) (hcb : t.ixs.length ≤ cb) (hz : TSz t) (hd : ∀ x ∈ P, x.nm ≠ t.nm) (hl : P.length < 4096) :
    Calls Try.prog 9 #[.pointer (some ⟨ga, 0, none⟩), .agg #[.string t.nm, .slice A t.cols.length ca, .int .i64 t.key, .slice B t.ixs.length cb]] w fun e w' => e = .returned (.int .i64 (crv (chk t))) ∧ Duo W w' ga ba gb bb (t :: P) Q ∧ Fr (fun k => k = ba) w w' ∧ ∃ m, OwnV w ba m := by
  obtain ⟨Ma, h1, h2⟩ := h.a
  obtain ⟨Mb, h3, h4⟩ := h.b
  refine (cr_step w ga ba Ma P h1 h2 t A ca B cb hA hca hB hcb hz hd hl).mono ?_
  rintro e w' ⟨he, hf, M', h5, h6⟩
  exact ⟨he, ⟨⟨M', h5, h6⟩, ⟨Mb, h3.other h1 hf fun e => h.ne e.symm, h4⟩, h.ne, h.ha, h.hb, hf.below h.below fun k hk => by subst hk; exact h.ha⟩, hf, _, h1.own⟩
theorem duo_b (W w : World) (ga ba gb bb : Nat) (P Q : List Tb) (h : Duo W w ga ba gb bb P Q) (t : Tb) (A : Option Addr) (ca : Nat) (B : Option Addr) (cb : Nat) (hA : kcol.C w A t.cols.length t.cols) (hca : t.cols.length ≤ ca) (hB : kix.C w B t.ixs.length t.ixs) (hcb : t.ixs.length ≤ cb) (hz : TSz t) (hd : ∀ x ∈ Q, x.nm ≠ t.nm) (hl : Q.length < 4096) :
    Calls Try.prog 9 #[.pointer (some ⟨gb, 0, none⟩), .agg #[.string t.nm, .slice A t.cols.length ca, .int .i64 t.key, .slice B t.ixs.length cb]] w fun e w' => e = .returned (.int .i64 (crv (chk t))) ∧ Duo W w' ga ba gb bb P (t :: Q) ∧ Fr (fun k => k = bb) w w' ∧ ∃ m, OwnV w bb m := by
  obtain ⟨Ma, h1, h2⟩ := h.a
  obtain ⟨Mb, h3, h4⟩ := h.b
  refine (cr_step w gb bb Mb Q h3 h4 t A ca B cb hA hca hB hcb hz hd hl).mono ?_
  rintro e w' ⟨he, hf, M', h5, h6⟩
  exact ⟨he, ⟨⟨Ma, h1.other h3 hf h.ne, h2⟩, ⟨M', h5, h6⟩, h.ne, h.ha, h.hb, hf.below h.below fun k hk => by subst hk; exact h.hb⟩, hf, _, h3.own⟩
/-- The row of schemas that lie elsewhere. -/
abbrev TRow (W0 w : World) (base : Nat) (v : Value) (L : List Tb) : Prop := (kfr ktb W0).R 30 w base (fun _ => True) v L
theorem TRow.map {W0 w w1 : World} {base sb : Nat} {v : Value} {L : List Tb} {m : FM.T Value} (h : TRow W0 w base v L) (ho : OwnV w sb m) (hf : Fr (fun k => k = sb) w w1) : TRow W0 w1 base v L := by
  obtain ⟨es, cl, hbb⟩ := ownV_map ho
  refine Kd.R_mono (Kd.R_move (Kd.R_bound h) fun k hk => ?_) fun k hk => trivial
  obtain ⟨-, -, hlt, q, hq, cells, hc⟩ := hk
  exact hf.block k hlt fun e => by rw [e, hbb] at hc; cases hc
/-- Blocks of another type may change. -/
theorem IsCat.keepTy {ok : Nat → Prop} {W W1 : World} {g b q0 : Nat} {M : CatM} {S : Nat → Prop} (h : IsCat ok W g b M) (hf : Fr S W W1) (hS : ∀ k, S k → ∃ cells, W.heap[k]? = some (.cells cells q0 (0, 0))) (hq : q0 ≠ 64 ∧ q0 ≠ 32 ∧ q0 ≠ 67 ∧ q0 ≠ 3) : IsCat ok W1 g b M := by
  have hty : ∀ k cells q, S k → W.heap[k]? = some (.cells cells q (0, 0)) → q = q0 := fun k cells q hs hc => by
    obtain ⟨c', hc'⟩ := hS k hs
    rw [hc] at hc'; injection hc' with hc'; injection hc'
  obtain ⟨es, cl, hbb⟩ := ownV_map h.own
  have hb : ¬ S b := fun hs => by obtain ⟨c', hc'⟩ := hS b hs; rw [hbb] at hc'; cases hc'
  refine ⟨(hf.block g h.lt.1 fun hs => hq.1 (hty g _ _ hs h.blk).symm).trans h.blk, ownV_move h.own (hf.block b h.lt.2 hb), fun p hp => ⟨(h.tb p hp).1, (h.tb p hp).2.1, (h.tb p hp).2.2.move fun k hk hlt hc => hf.block k hlt fun hs => ?_⟩, h.st, h.len⟩
  obtain ⟨q, cells, hqq, hc⟩ := hc
  have := hty k _ _ hs hc
  rcases hqq with rfl | rfl | rfl
  · exact hq.2.1 this.symm
  · exact hq.2.2.1 this.symm
  · exact hq.2.2.2 this.symm
theorem Duo.keepTy {W w w1 : World} {ga ba gb bb q0 : Nat} {P Q : List Tb} {S : Nat → Prop} (h : Duo W w ga ba gb bb P Q) (hf : Fr S w w1) (hS : ∀ k, S k → ∃ cells, w.heap[k]? = some (.cells cells q0 (0, 0))) (hq : q0 ≠ 64 ∧ q0 ≠ 32 ∧ q0 ≠ 67 ∧ q0 ≠ 3) (hb : Below W.heap.size W w1) : Duo W w1 ga ba gb bb P Q := by
  obtain ⟨Ma, h1, h2⟩ := h.a
  obtain ⟨Mb, h3, h4⟩ := h.b
  exact ⟨⟨Ma, h1.keepTy hf hS hq, h2⟩, ⟨Mb, h3.keepTy hf hS hq, h4⟩, h.ne, h.ha, h.hb, hb⟩
theorem fr_grown {w w1 : World} {v : Value} (hg : w.grownBy w1 v.ownBlock) : Fr (fun k => v.ownBlock = some k) w w1 := ⟨hg.os, hg.tape, hg.output, hg.size, fun k hk hn => hg.block k hk fun e => hn e.symm⟩
theorem row_typed {α : Type} {d : Kd α} {e : Nat} {w : World} {base : Nat} {ok : Nat → Prop} {v : Value} {xs : List α} (h : d.R e w base ok v xs) : ∀ k, v.ownBlock = some k → ∃ cells, w.heap[k]? = some (.cells cells e (0, 0)) := by
  obtain ⟨inner, ho⟩ := Kd.R_own h
  exact fun k hk => own_typed ho k hk
/-- Two catalogues of the same schemas. -/
structure Same2 (W w : World) (ga ba gb bb : Nat) : Prop where
  out : ∃ Ma Mb, IsCat (fun _ => True) w ga ba Ma ∧ IsCat (fun _ => True) w gb bb Mb ∧ tbs Ma = tbs Mb
  below : Below W.heap.size W w
theorem Same2.keep {W w w1 : World} {ga ba gb bb : Nat} (h : Same2 W w ga ba gb bb) (hb : Below w.heap.size w w1) : Same2 W w1 ga ba gb bb := by
  obtain ⟨Ma, Mb, h1, h2, h3⟩ := h.out
  exact ⟨⟨Ma, Mb, h1.below hb, h2.below hb, h3⟩, step h.below hb⟩
def drv (c : Bool) : Int := if c then 0 else 141
theorem duo_drop (W w : World) (ga ba gb bb : Nat) (P Q L : List Tb) (drop : ByteArray) (h : Duo W w ga ba gb bb P Q) (hd : drop.size ≤ maxLen) (hP : ∀ x, x ∈ P ↔ x ∈ L) (hQ : ∀ x, x ∈ Q ↔ x = exT drop ∨ x ∈ L) (hne : ∀ t ∈ L, t.nm ≠ drop) :
    Calls Try.prog 10 #[.pointer (some ⟨gb, 0, none⟩), .string drop] w fun e w' => e = .returned (.int .i64 (drv (chk (exT drop)))) ∧ Same2 W w' ga ba gb bb := by
  obtain ⟨Ma, h1, h2⟩ := h.a
  obtain ⟨Mb, h3, h4⟩ := h.b
  refine (drop_walk _ w gb bb Mb h3 drop hd).mono ?_
  rintro e w' ⟨rfl, hc, hf⟩
  obtain ⟨e1, e2⟩ := says_del (x := exT drop) h4 h3.named hQ hne
  have e1 : (FM.get Mb drop.data.toList).isSome = chk (exT drop) := e1
  refine ⟨by rw [e1]; rfl, ⟨Ma, _, h1.other h3 hf h.ne, hc, ?_⟩, hf.below h.below fun k hk => by subst hk; exact h.hb⟩
  refine tbs_ext (tbs_sorted h1.st h1.named) (tbs_sorted hc.st hc.named) fun t => ?_
  rw [h2.mem t, hP t]
  exact (e2 t).symm
theorem same_enc_a (W w : World) (ga ba gb bb : Nat) (h : Same2 W w ga ba gb bb) : ∃ s n, (Calls Try.prog 11 #[.pointer (some ⟨ga, 0, none⟩)] w fun e w' => e = .returned (.tuple #[.string s, .int .i64 n]) ∧ Same2 W w' ga ba gb bb ∧ (Calls Try.prog 11 #[.pointer (some ⟨gb, 0, none⟩)] w' fun e w2 => e = .returned (.tuple #[.string s, .int .i64 n]) ∧ Same2 W w2 ga ba gb bb)) := by
  obtain ⟨Ma, Mb, h1, h2, h3⟩ := h.out
  refine ⟨(encR Ma).1, (encR Ma).2, (encode_walk _ w ga ba Ma h1).mono ?_⟩
  rintro e w' ⟨rfl, hb⟩
  refine ⟨rfl, h.keep hb, (encode_walk _ w' gb bb Mb (h2.below hb)).mono ?_⟩
  rintro e w2 ⟨rfl, hb2⟩
  exact ⟨by rw [encR_tbs h3], (h.keep hb).keep hb2⟩
theorem same_names (W w : World) (ga ba gb bb : Nat) (h : Same2 W w ga ba gb bb) : ∃ l, (Calls Try.prog 13 #[.pointer (some ⟨ga, 0, none⟩)] w fun e w' => ∃ A c, e = .returned (.slice A (List.length l) c) ∧ SAt w' A l ∧ Same2 W w' ga ba gb bb ∧ (Calls Try.prog 13 #[.pointer (some ⟨gb, 0, none⟩)] w' fun e w2 => ∃ B d, e = .returned (.slice B l.length d) ∧ SAt w2 A l ∧ SAt w2 B l ∧ Below W.heap.size W w2)) := by
  obtain ⟨Ma, Mb, h1, h2, h3⟩ := h.out
  refine ⟨nameL Ma, (names_walk _ w ga ba Ma h1).mono ?_⟩
  rintro e w' ⟨v, rfl, hrow, hb⟩
  obtain ⟨A, c, rfl, -, hA⟩ := sAt_own hrow
  refine ⟨A, c, rfl, hA, h.keep hb, (names_walk _ w' gb bb Mb (h2.below hb)).mono ?_⟩
  rintro e w2 ⟨v2, rfl, hrow2, hb2⟩
  have en : nameL Mb = nameL Ma := by rw [nameL_tbs h1.st h1.named, nameL_tbs h2.st h2.named, h3]
  rw [en] at hrow2
  obtain ⟨B, d, rfl, -, hB⟩ := sAt_own hrow2
  exact ⟨B, d, rfl, hA.below hb2, hB, ((h.keep hb).keep hb2).below⟩
set_option maxRecDepth 100000 in
set_option maxHeartbeats 16000000 in
theorem order_walk (W : World) (A : Option Addr) (l : List Tb) (c : Nat) (drop : ByteArray) (hA : ktb.C W A l.length l) (hc : l.length ≤ c) (hz : ∀ t ∈ l, TSz t) (hd : drop.size ≤ maxLen) :
    Calls Try.prog 3 #[.slice A l.length c, .string drop] W fun e W' => e = .returned (.bool true) ∧ Below W.heap.size W W' := by
  have HA := Aside0.mk hA
  have HZ := Aside0.mk hz
  have hmm := @run_makeMap Try.prog
  clear hA hz
  go_enter Try.func3, Try.ntmps3
  go_upto_region 2 with (first
    | (go_at_call 7; refine (new_walk w1).mono ?_; rintro e w2 ⟨rfl, h2, hb2⟩; have HD := Aside0.mk (show Duo W w2 (W.heap.size + 1) W.heap.size (w1.heap.size + 1) w1.heap.size [] [] from ⟨⟨[], H1.out.below hb2, says_nil⟩, ⟨[], h2, says_nil⟩, by have := H1.out.lt.2; omega, Nat.le_refl _, HB1.out.size, step HB1.out hb2⟩); clear h2 hb2)
    | (go_at_call 7; refine (new_walk W).mono ?_; rintro e w1 ⟨rfl, h1, hb1⟩; have H1 := Aside0.mk h1; have HB1 := Aside0.mk hb1; clear h1 hb1))
  clear H1 HB1
  generalize W.heap.size + 1 = ga at *
  obtain ⟨ba, hba⟩ : ∃ ba, W.heap.size = ba := ⟨_, rfl⟩
  generalize w1.heap.size + 1 = gb at *
  generalize w1.heap.size = bb at *
  have HDD : Aside0 (Duo W w2 ga ba gb bb [] []) := by rw [← hba]; exact HD
  clear HD hba
  go_upto_region 6 with (go_at_call 8; refine (works_walk _).mono ?_; rintro e w3 ⟨rfl, hb3⟩; have HD := Aside0.mk (HDD.out.keep hb3); clear hb3)
  have HD4 := Aside0.mk (HD.out.keep (below_alloc (Below.refl w3.heap.size w3) (.map #[] 0)))
  obtain ⟨sb, hsb⟩ : ∃ sb, w3.heap.size = sb := ⟨_, rfl⟩
  have HO0 := Aside0.mk (show OwnV (w3.alloc (.map #[] 0)) sb [] from hsb ▸ World.ownsMap_made w3 Try.prog 9 rawR)
  have HSB := Aside0.mk (show ba < sb ∧ bb < sb from by have := HD.out.lt; omega)
  rw [hsb]
  clear HD HDD hmm
  generalize w3.alloc (.map #[] 0) = w4 at *
  clear hsb
  go_wp2_with fail
  go_loopg [7, 9] (l.length + 21) (fun kq v7 v9 w' => ∃ (i : Nat) (L : List Tb) (m : FM.T Value), v9 = .int .i64 (i : Int) ∧ Aside0 (i + kq = l.length + 21 ∧ i ≤ l.length ∧ i ≤ 20) ∧ Aside0 (Duo W w' ga ba gb bb [] []) ∧ Aside0 (OwnV w' sb m) ∧ Aside0 (TRow W w' W.heap.size v7 L) ∧ Aside0 (Kept l L drop m i))
  case atStart => exact ⟨0, [], [], rfl, ⟨by omega, Nat.zero_le _, by omega⟩, HD4, HO0, ⟨Kd.R_nil _ _ _ _ _⟩, ⟨kept_nil l drop⟩⟩
  case round =>
    clear HD4 HO0
    obtain ⟨i, L, m, rfl, HJ, HD, HO, HR, HK⟩ := hrel
    have hwr := HD.out.below.size
    by_cases hi : i < l.length ∧ i < 20
    · obtain ⟨kq1, rfl⟩ : ∃ kq1, gk = kq1 + 1 := ⟨gk - 1, by have := HJ.out; omega⟩
      obtain ⟨hi1, hi2⟩ := hi
      have hj1 : (i : Int) < (l.length : Int) := by omega
      have hj2 : (i : Int) < 20 := by omega
      obtain ⟨ad, B, cb, D, cd, rfl, x0, x1, x2, x3, q1, q2, q3, q4⟩ := tb_at (Kd.C_below HA.out HD.out.below) i hi1
      have hzi := HZ.out _ (List.getElem_mem hi1)
      have hmem : l[i] ∈ l := List.getElem_mem hi1
      obtain ⟨t, ht⟩ : ∃ t, l[i] = t := ⟨_, rfl⟩
      rw [ht] at x0 x1 x2 x3 q1 q2 q3 q4 hzi hmem
      have hlk := lookB_run sb m HO.out t.nm hzi.nm
      rw [kept_look HK.out] at hlk
      have HZi := Aside0.mk hzi
      have HMe := Aside0.mk hmem
      have HI1 := Aside0.mk hi1
      have hKM : ktb.K W t [.string t.nm, .slice B t.cols.length cb, .int .i64 t.key, .slice D t.ixs.length cd] := by
        obtain ⟨ad', B', cb', D', cd', e, y0, y1, y2, y3, r1, r2, r3, r4⟩ := tb_at HA.out i hi1
        obtain rfl := Option.some.inj e
        rw [ht] at y0 y1 y2 y3 r1 r2 r3 r4
        have e1 := cell_below HD.out.below y1
        have e3 := cell_below HD.out.below y3
        rw [x1] at e1
        rw [x3] at e3
        obtain ⟨rfl, -, rfl⟩ := Value.slice.inj (Option.some.inj e1)
        obtain ⟨rfl, -, rfl⟩ := Value.slice.inj (Option.some.inj e3)
        exact ktb_K.2 ⟨B, cb, D, cd, rfl, r1, r2, r3, r4⟩
      have HKM := Aside0.mk hKM
      have y1 := far_cell x1
      have y2 := far_cell x2
      have y3 := far_cell x3
      have HW0 := Aside0.mk (show W.cell? (ad.add (i * 4)) = some (.string t.nm) from by
        obtain ⟨ad', B', cb', D', cd', e, y0, -⟩ := tb_at HA.out i hi1
        obtain rfl := Option.some.inj e
        rw [ht] at y0
        exact y0)
      clear hzi hmem ht hi1 hKM q1 q2 q3 q4
      cases hg : FM.get m t.nm.data.toList with
      | some v0 =>
        rw [hg] at hlk
        simp only [Option.isSome_some] at hlk
        have HO6 := HO
        have HD6 := HD
        have HR6 := HR
        generalize hw6 : wr = w6 at *
        clear hg
        go_wp2_with (at_mapUpdate; refine step_putB rfl _ _ _ rfl sb m rfl HO6.out (by have := HK.out.ml; omega) t.nm (.bool true) rfl rfl HZi.out.nm ?_; intro w8 ho8 hg8; have hf8 := (Fr.refl (fun k => k = sb) w6).grown hg8 (.inl rfl); have HD8 := Aside0.mk (HD6.out.seen HO6.out hf8 HSB.out.1 HSB.out.2); have HR8 := Aside0.mk (TRow.map HR6.out HO6.out hf8); have HO8 := Aside0.mk ho8; clear ho8 hg8 hf8)
        go_roundg kq1
        case measure => have := HJ.out; omega
        case rel => exact ⟨i + 1, L, _, by go_num, ⟨by have := HJ.out; omega, by have := HI1.out; omega, by omega⟩, HD8, HO8, HR8, ⟨kept_seen HK.out t.nm⟩⟩
      | none =>
        rw [hg] at hlk
        simp only [Option.isSome_none] at hlk
        have HG := Aside0.mk hg
        clear hg
        by_cases hn : t.nm = drop
        · subst hn
          have HO6 := HO
          have HD6 := HD
          have HR6 := HR
          generalize hw6 : wr = w6 at *
          go_wp2_with (at_mapUpdate; refine step_putB rfl _ _ _ rfl sb m rfl HO6.out (by have := HK.out.ml; omega) t.nm (.bool true) rfl rfl HZi.out.nm ?_; intro w8 ho8 hg8; have hf8 := (Fr.refl (fun k => k = sb) w6).grown hg8 (.inl rfl); have HD8 := Aside0.mk (HD6.out.seen HO6.out hf8 HSB.out.1 HSB.out.2); have HR8 := Aside0.mk (TRow.map HR6.out HO6.out hf8); have HO8 := Aside0.mk ho8; clear ho8 hg8 hf8)
          go_roundg kq1
          case measure => have := HJ.out; omega
          case rel => exact ⟨i + 1, L, _, by go_num, ⟨by have := HJ.out; omega, by have := HI1.out; omega, by omega⟩, HD8, HO8, HR8, ⟨kept_seen HK.out t.nm⟩⟩
        · have hnb := tl_ne hn
          go_upto_region 11 with ((with_reducible refine gate_builtin (b := .append) (xs := #[.tmp 58, .tmp 63]) rfl ?_); at_builtin; refine Kd.R_append (kfr ktb W) (w0 := W) W.heap.size rfl (.tmp 58) (.tmp 63) 22 30 zt 72 rfl Try.underlying22 info30 rfl (show 0 < 4 from by decide) (by decide) _ L t [.string t.nm, .slice B t.cols.length cb, .int .i64 t.key, .slice D t.ixs.length cd] (fun _ => True) (fun _ => False) rfl rfl HKM.out (fun _ h => h.elim) (fun _ _ => trivial) HR.out HD.out.below hwr (by have := HK.out.ln; omega) ?_; intro v1 w6 hr6 hb6 hg6 hat6; have HR6 := Aside0.mk hr6; have HB6 := Aside0.mk hb6; have HD6 := Aside0.mk (HD.out.keepTy (fr_grown hg6) (row_typed HR.out) (by decide) hb6); have HO6 := Aside0.mk (show OwnV w6 sb m from by obtain ⟨es, cl, hbb⟩ := ownV_map HO.out; exact ownV_move HO.out (hg6.block sb HO.out.lt fun e => by obtain ⟨c', hc'⟩ := row_typed HR.out sb e.symm; rw [hbb] at hc'; cases hc')); have z0 := cell_below hb6 HW0.out; clear hr6 hb6 hg6 hat6)
          go_wp2_with (at_mapUpdate; refine step_putB rfl _ _ _ rfl sb m rfl HO6.out (by have := HK.out.ml; omega) t.nm (.bool true) rfl rfl HZi.out.nm ?_; intro w8 ho8 hg8; have hf8 := (Fr.refl (fun k => k = sb) w6).grown hg8 (.inl rfl); have HD8 := Aside0.mk (HD6.out.seen HO6.out hf8 HSB.out.1 HSB.out.2); have HR8 := Aside0.mk (TRow.map HR6.out HO6.out hf8); have HO8 := Aside0.mk ho8; clear ho8 hg8 hf8)
          go_roundg kq1
          case measure => have := HJ.out; omega
          case rel => exact ⟨i + 1, L ++ [t], _, by go_num, ⟨by have := HJ.out; omega, by have := HI1.out; omega, by omega⟩, HD8, HO8, HR8, ⟨kept_add HK.out t HMe.out hn HG.out⟩⟩
    · have HKK := HK
      have hex : l.length ≤ i ∨ (i < l.length ∧ 20 ≤ i) := by omega
      have hL20 : L.length ≤ 20 := by have := HK.out.ln; have := HJ.out; omega
      clear HO HSB HJ hi
      rcases hex with hex | ⟨hex, hex2⟩
      · have hj : ¬ (i : Int) < (l.length : Int) := by omega
        go_upto_region 13 with fail
        clear hj hex
        obtain ⟨z, hz⟩ : ∃ z, wr.heap.size = z := ⟨_, rfl⟩
        have hex := exT_made wr z drop hz
        rw [hz]
        have HX := Aside0.mk hex.1
        have HT := Aside0.mk hex.2.1
        have HD5 := Aside0.mk (HD.out.keep hex.2.2)
        have hr5 := Kd.R_below HR.out hex.2.2
        clear hex hz HD HR
        generalize (wr.alloc (.cells #[.string ⟨#[97]⟩, .int .i64 2] 32)).alloc (.cells #[.string drop, .slice (some ⟨z, 0, none⟩) 1 1, .int .i64 1, .slice none 0 0] 30) = w5 at *
        obtain ⟨A7, c7, rfl⟩ := Kd.R_slice hr5
        have HR5 := Aside0.mk (show TRow W w5 W.heap.size (.slice A7 L.length c7) L from hr5)
        clear hr5
        go_wp2_with fail
        go_loopg [77] (L.length + 1) (fun kq v77 w' => ∃ (j : Nat) (P : List Tb), v77 = .int .i64 (j : Int) ∧ Aside0 (j + kq = L.length + 1 ∧ j ≤ L.length ∧ P.length = j ∧ ∀ x, x ∈ P ↔ x ∈ L.take j) ∧ Aside0 (Duo W w' ga ba gb bb P []) ∧ Aside0 (TRow W w' W.heap.size (.slice A7 L.length c7) L) ∧ Aside0 (Fr (fun k => k = ba) w5 w'))
        case atStart => exact ⟨0, [], rfl, ⟨by omega, Nat.zero_le _, rfl, by simp⟩, HD5, HR5, ⟨Fr.refl _ _⟩⟩
        case round =>
          have HD5b := HD5
          clear HD5 HR5
          obtain ⟨j, P, rfl, HJ, HD, HR, HF⟩ := hrel
          by_cases hj : j < L.length
          · obtain ⟨kq1, rfl⟩ : ∃ kq1, gk = kq1 + 1 := ⟨gk - 1, by have := HJ.out.1; omega⟩
            have hji : (j : Int) < (L.length : Int) := by omega
            obtain ⟨ad, B, cb, D, cd, rfl, x0, x1, x2, x3, q1, q2, q3, q4⟩ := trow_at (Kd.R_reads' HR.out).2.2 j hj
            have hzi := HZ.out _ (HK.out.mem _ (List.getElem_mem hj))
            have hdd : ∀ x ∈ P, x.nm ≠ (L[j]).nm := fun x hx => nd_take HK.out.nd hj x ((HJ.out.2.2.2 x).1 hx)
            have htk : ∀ x, x ∈ L[j] :: P ↔ x ∈ L.take (j + 1) := fun x => by rw [List.take_succ_eq_append_getElem hj, List.mem_append, List.mem_singleton, List.mem_cons, HJ.out.2.2.2 x]; exact Or.comm
            obtain ⟨t, ht⟩ : ∃ t, L[j] = t := ⟨_, rfl⟩
            rw [ht] at x0 x1 x2 x3 q1 q2 q3 q4 hzi hdd htk
            have y1 := far_cell x1
            have y2 := far_cell x2
            have y3 := far_cell x3
            have HC1 := Aside0.mk (Kd.C_below q2 HD.out.below)
            have HC2 := Aside0.mk (Kd.C_below q4 HD.out.below)
            have HQ := Aside0.mk (show t.cols.length ≤ cb ∧ t.ixs.length ≤ cd from ⟨q1, q3⟩)
            have HZt := Aside0.mk hzi
            have HDd := Aside0.mk hdd
            have HTk := Aside0.mk htk
            have HHj := Aside0.mk hj
            clear q1 q2 q3 q4 hzi hdd htk ht hj
            go_wp2_with (go_at_call 9; refine (duo_a W _ ga ba gb bb P [] HD.out t B cb D cd HC1.out HQ.out.1 HC2.out HQ.out.2 HZt.out HDd.out (by have := HJ.out.2.2.1; have := HJ.out.2.1; omega)).mono ?_; rintro e w6 ⟨rfl, hd6, hf6, m6, ho6⟩; have HD6 := Aside0.mk hd6; have HR6 := Aside0.mk (TRow.map HR.out ho6 hf6); have HF6 := Aside0.mk (HF.out.trans hf6); clear hd6 hf6 ho6)
            go_roundg kq1
            case measure => have := HJ.out.1; omega
            case rel => exact ⟨j + 1, t :: P, by go_num, ⟨by have := HJ.out.1; omega, by have := HHj.out; omega, by have := HJ.out.2.2.1; simp; omega, HTk.out⟩, HD6, HR6, HF6⟩
          · have hji : ¬ (j : Int) < (L.length : Int) := by omega
            have hjl : j = L.length := by have := HJ.out.2.1; omega
            subst hjl
            have HPL := Aside0.mk (show P.length = L.length ∧ ∀ x, x ∈ P ↔ x ∈ L from ⟨HJ.out.2.2.1, fun x => by rw [HJ.out.2.2.2 x, List.take_length]⟩)
            clear HJ hj
            have hbl := HD.out
            have HX6 := Aside0.mk (show wr.heap[z]? = some (.cells #[.string ⟨#[97]⟩, .int .i64 2] 32 (0, 0)) from (HF.out.block z (blk_lt HX.out) fun e => by
              obtain ⟨Mb, h3, -⟩ := HD5b.out.a
              obtain ⟨es, cl, hbb⟩ := ownV_map h3.own
              have := HX.out
              rw [e, hbb] at this
              cases this).trans HX.out)
            have HT6 := Aside0.mk (HT.out.fr HF.out fun e => by
              obtain ⟨Mb, h3, -⟩ := HD5b.out.a
              obtain ⟨es, cl, hbb⟩ := ownV_map h3.own
              have := HT.out.c0
              unfold World.cell? at this
              rw [e, hbb] at this
              cases this)
            have t0 := HT6.out.c0
            have t1 := HT6.out.c1
            have t2 := HT6.out.c2
            have t3 := HT6.out.c3
            clear HX HT HD5b HF hbl
            go_upto_region 19 with (go_at_call 9; refine (duo_b W _ ga ba gb bb P [] HD.out (exT drop) (some ⟨z, 0, none⟩) 1 none 0 (exT_cols HX6.out) (Nat.le_refl _) ⟨rfl, (show 0 ≤ 9223372036854775807 from by decide), fun h => absurd h (Nat.lt_irrefl 0)⟩ (Nat.le_refl _) (exT_sz hd) (fun x hx => by cases hx) (by decide)).mono ?_; rintro e w7 ⟨rfl, hd7, hf7, m7, ho7⟩; have HD7 := Aside0.mk hd7; have HR7 := Aside0.mk (TRow.map HR.out ho7 hf7); clear hd7 hf7 ho7)
            clear t0 t1 t2 t3 HT6 HX6 HR HD
            go_wp2_with fail
            go_loopg [13] (L.length + 1) (fun kq v13 w' => ∃ (j : Nat) (Q : List Tb) (n : Int), v13 = .int .i64 n ∧ Aside0 (n = (j : Int) - 1) ∧ Aside0 (kq = j + 1 ∧ j ≤ L.length ∧ Q.length + j = L.length + 1 ∧ ∀ x, x ∈ Q ↔ x = exT drop ∨ x ∈ L.drop j) ∧ Aside0 (Duo W w' ga ba gb bb P Q) ∧ Aside0 (TRow W w' W.heap.size (.slice A7 L.length c7) L))
            case atStart => exact ⟨L.length, [exT drop], _, rfl, ⟨rfl⟩, ⟨rfl, Nat.le_refl _, by simp; omega, by simp⟩, HD7, HR7⟩
            case round =>
              clear HD7 HR7
              obtain ⟨j, Q, n, rfl, HN, HJ, HD, HR⟩ := hrel
              obtain ⟨kq1, rfl⟩ : ∃ kq1, gk = kq1 + 1 := ⟨j, HJ.out.1⟩
              cases j with
              | zero =>
                obtain rfl : n = -1 := by have := HN.out; omega
                have HS := Aside0.mk (duo_drop W wr ga ba gb bb P Q L drop HD.out hd HPL.out.2 (fun x => by rw [HJ.out.2.2.2 x, List.drop_zero]) HK.out.ne)
                clear HJ HD HR HN hji
                generalize chk (exT drop) = ce at *
                cases ce
                all_goals (
                  have e1 : crv false = 140 := rfl
                  have e2 : crv true = 0 := rfl
                  have e3 : drv false = 141 := rfl
                  have e4 : drv true = 0 := rfl
                  go_wp2_with (first
                    | (go_at_call 10; refine HS.out.mono ?_; rintro e w8 ⟨rfl, hs8⟩; obtain ⟨s, n, hE⟩ := same_enc_a W w8 ga ba gb bb hs8; have HE := Aside0.mk hE; clear hs8 hE)
                    | (go_at_call 11; refine HE2.out.mono ?_; rintro e w10 ⟨rfl, hs10⟩; obtain ⟨ln, hN⟩ := same_names W w10 ga ba gb bb hs10; have HN := Aside0.mk hN; clear hs10 hN)
                    | (go_at_call 11; refine HE.out.mono ?_; rintro e w9 ⟨rfl, -, hE2⟩; have HE2 := Aside0.mk hE2; clear hE2)
                    | (go_at_call 13; refine HN2.out.mono ?_; rintro e w12 ⟨B2, d2, rfl, ha2, hb2, hw2⟩; have HT2 := Aside0.mk (sameT_walk w12 A2 B2 ln c2 d2 ha2 hb2); have HW2 := Aside0.mk hw2; clear ha2 hb2 hw2)
                    | (go_at_call 13; refine HN.out.mono ?_; rintro e w11 ⟨A2, c2, rfl, -, -, hN2⟩; have HN2 := Aside0.mk hN2; clear hN2)
                    | (go_at_call 12; refine HT2.out.mono ?_; rintro e w13 ⟨rfl, hb13⟩; have HW3 := Aside0.mk (step HW2.out hb13); clear hb13))
                  go_ret
                  exact ⟨rfl, HW3.out⟩)
              | succ j0 =>
                obtain rfl : n = (j0 : Int) := by have := HN.out; omega
                have hj : j0 < L.length := by have := HJ.out.2.1; omega
                have hji : (0 : Int) ≤ (j0 : Int) := by omega
                have hji2 : (j0 : Int) < (L.length : Int) := by omega
                obtain ⟨ad, B, cb, D, cd, rfl, x0, x1, x2, x3, q1, q2, q3, q4⟩ := trow_at (Kd.R_reads' HR.out).2.2 j0 hj
                have hzi := HZ.out _ (HK.out.mem _ (List.getElem_mem hj))
                have hdd : ∀ x ∈ Q, x.nm ≠ (L[j0]).nm := fun x hx => by
                  rcases (HJ.out.2.2.2 x).1 hx with rfl | hx
                  · exact fun e => HK.out.ne _ (List.getElem_mem hj) e.symm
                  · exact nd_drop HK.out.nd hj x hx
                have htk : ∀ x, x ∈ L[j0] :: Q ↔ x = exT drop ∨ x ∈ L.drop j0 := fun x => by
                  rw [List.drop_eq_getElem_cons hj, List.mem_cons, List.mem_cons, HJ.out.2.2.2 x]
                  exact or_left_comm
                obtain ⟨t, ht⟩ : ∃ t, L[j0] = t := ⟨_, rfl⟩
                rw [ht] at x0 x1 x2 x3 q1 q2 q3 q4 hzi hdd htk
                have y1 := far_cell x1
                have y2 := far_cell x2
                have y3 := far_cell x3
                have HC1 := Aside0.mk (Kd.C_below q2 HD.out.below)
                have HC2 := Aside0.mk (Kd.C_below q4 HD.out.below)
                have HQ := Aside0.mk (show t.cols.length ≤ cb ∧ t.ixs.length ≤ cd from ⟨q1, q3⟩)
                have HZt := Aside0.mk hzi
                have HDd := Aside0.mk hdd
                have HTk := Aside0.mk htk
                have HHj := Aside0.mk hj
                clear q1 q2 q3 q4 hzi hdd htk ht hj
                go_wp2_with (go_at_call 9; refine (duo_b W _ ga ba gb bb P Q HD.out t B cb D cd HC1.out HQ.out.1 HC2.out HQ.out.2 HZt.out HDd.out (by have := HJ.out.2.2.1; omega)).mono ?_; rintro e w8 ⟨rfl, hd8, hf8, m8, ho8⟩; have HD8 := Aside0.mk hd8; have HR8 := Aside0.mk (TRow.map HR.out ho8 hf8); clear hd8 hf8 ho8)
                go_roundg kq1
                case measure => omega
                case rel => exact ⟨j0, t :: Q, _, rfl, ⟨rfl⟩, ⟨by have := HJ.out.1; omega, by have := HHj.out; omega, by have := HJ.out.2.2.1; simp; omega, HTk.out⟩, HD8, HR8⟩
      · have hj : (i : Int) < (l.length : Int) := by omega
        have hj2 : ¬ (i : Int) < 20 := by omega
        go_upto_region 13 with fail
        clear hj hj2 hex hex2
        obtain ⟨z, hz⟩ : ∃ z, wr.heap.size = z := ⟨_, rfl⟩
        have hex := exT_made wr z drop hz
        rw [hz]
        have HX := Aside0.mk hex.1
        have HT := Aside0.mk hex.2.1
        have HD5 := Aside0.mk (HD.out.keep hex.2.2)
        have hr5 := Kd.R_below HR.out hex.2.2
        clear hex hz HD HR
        generalize (wr.alloc (.cells #[.string ⟨#[97]⟩, .int .i64 2] 32)).alloc (.cells #[.string drop, .slice (some ⟨z, 0, none⟩) 1 1, .int .i64 1, .slice none 0 0] 30) = w5 at *
        obtain ⟨A7, c7, rfl⟩ := Kd.R_slice hr5
        have HR5 := Aside0.mk (show TRow W w5 W.heap.size (.slice A7 L.length c7) L from hr5)
        clear hr5
        go_wp2_with fail
        go_loopg [77] (L.length + 1) (fun kq v77 w' => ∃ (j : Nat) (P : List Tb), v77 = .int .i64 (j : Int) ∧ Aside0 (j + kq = L.length + 1 ∧ j ≤ L.length ∧ P.length = j ∧ ∀ x, x ∈ P ↔ x ∈ L.take j) ∧ Aside0 (Duo W w' ga ba gb bb P []) ∧ Aside0 (TRow W w' W.heap.size (.slice A7 L.length c7) L) ∧ Aside0 (Fr (fun k => k = ba) w5 w'))
        case atStart => exact ⟨0, [], rfl, ⟨by omega, Nat.zero_le _, rfl, by simp⟩, HD5, HR5, ⟨Fr.refl _ _⟩⟩
        case round =>
          have HD5b := HD5
          clear HD5 HR5
          obtain ⟨j, P, rfl, HJ, HD, HR, HF⟩ := hrel
          by_cases hj : j < L.length
          · obtain ⟨kq1, rfl⟩ : ∃ kq1, gk = kq1 + 1 := ⟨gk - 1, by have := HJ.out.1; omega⟩
            have hji : (j : Int) < (L.length : Int) := by omega
            obtain ⟨ad, B, cb, D, cd, rfl, x0, x1, x2, x3, q1, q2, q3, q4⟩ := trow_at (Kd.R_reads' HR.out).2.2 j hj
            have hzi := HZ.out _ (HK.out.mem _ (List.getElem_mem hj))
            have hdd : ∀ x ∈ P, x.nm ≠ (L[j]).nm := fun x hx => nd_take HK.out.nd hj x ((HJ.out.2.2.2 x).1 hx)
            have htk : ∀ x, x ∈ L[j] :: P ↔ x ∈ L.take (j + 1) := fun x => by rw [List.take_succ_eq_append_getElem hj, List.mem_append, List.mem_singleton, List.mem_cons, HJ.out.2.2.2 x]; exact Or.comm
            obtain ⟨t, ht⟩ : ∃ t, L[j] = t := ⟨_, rfl⟩
            rw [ht] at x0 x1 x2 x3 q1 q2 q3 q4 hzi hdd htk
            have y1 := far_cell x1
            have y2 := far_cell x2
            have y3 := far_cell x3
            have HC1 := Aside0.mk (Kd.C_below q2 HD.out.below)
            have HC2 := Aside0.mk (Kd.C_below q4 HD.out.below)
            have HQ := Aside0.mk (show t.cols.length ≤ cb ∧ t.ixs.length ≤ cd from ⟨q1, q3⟩)
            have HZt := Aside0.mk hzi
            have HDd := Aside0.mk hdd
            have HTk := Aside0.mk htk
            have HHj := Aside0.mk hj
            clear q1 q2 q3 q4 hzi hdd htk ht hj
            go_wp2_with (go_at_call 9; refine (duo_a W _ ga ba gb bb P [] HD.out t B cb D cd HC1.out HQ.out.1 HC2.out HQ.out.2 HZt.out HDd.out (by have := HJ.out.2.2.1; have := HJ.out.2.1; omega)).mono ?_; rintro e w6 ⟨rfl, hd6, hf6, m6, ho6⟩; have HD6 := Aside0.mk hd6; have HR6 := Aside0.mk (TRow.map HR.out ho6 hf6); have HF6 := Aside0.mk (HF.out.trans hf6); clear hd6 hf6 ho6)
            go_roundg kq1
            case measure => have := HJ.out.1; omega
            case rel => exact ⟨j + 1, t :: P, by go_num, ⟨by have := HJ.out.1; omega, by have := HHj.out; omega, by have := HJ.out.2.2.1; simp; omega, HTk.out⟩, HD6, HR6, HF6⟩
          · have hji : ¬ (j : Int) < (L.length : Int) := by omega
            have hjl : j = L.length := by have := HJ.out.2.1; omega
            subst hjl
            have HPL := Aside0.mk (show P.length = L.length ∧ ∀ x, x ∈ P ↔ x ∈ L from ⟨HJ.out.2.2.1, fun x => by rw [HJ.out.2.2.2 x, List.take_length]⟩)
            clear HJ hj
            have hbl := HD.out
            have HX6 := Aside0.mk (show wr.heap[z]? = some (.cells #[.string ⟨#[97]⟩, .int .i64 2] 32 (0, 0)) from (HF.out.block z (blk_lt HX.out) fun e => by
              obtain ⟨Mb, h3, -⟩ := HD5b.out.a
              obtain ⟨es, cl, hbb⟩ := ownV_map h3.own
              have := HX.out
              rw [e, hbb] at this
              cases this).trans HX.out)
            have HT6 := Aside0.mk (HT.out.fr HF.out fun e => by
              obtain ⟨Mb, h3, -⟩ := HD5b.out.a
              obtain ⟨es, cl, hbb⟩ := ownV_map h3.own
              have := HT.out.c0
              unfold World.cell? at this
              rw [e, hbb] at this
              cases this)
            have t0 := HT6.out.c0
            have t1 := HT6.out.c1
            have t2 := HT6.out.c2
            have t3 := HT6.out.c3
            clear HX HT HD5b HF hbl
            go_upto_region 19 with (go_at_call 9; refine (duo_b W _ ga ba gb bb P [] HD.out (exT drop) (some ⟨z, 0, none⟩) 1 none 0 (exT_cols HX6.out) (Nat.le_refl _) ⟨rfl, (show 0 ≤ 9223372036854775807 from by decide), fun h => absurd h (Nat.lt_irrefl 0)⟩ (Nat.le_refl _) (exT_sz hd) (fun x hx => by cases hx) (by decide)).mono ?_; rintro e w7 ⟨rfl, hd7, hf7, m7, ho7⟩; have HD7 := Aside0.mk hd7; have HR7 := Aside0.mk (TRow.map HR.out ho7 hf7); clear hd7 hf7 ho7)
            clear t0 t1 t2 t3 HT6 HX6 HR HD
            go_wp2_with fail
            go_loopg [13] (L.length + 1) (fun kq v13 w' => ∃ (j : Nat) (Q : List Tb) (n : Int), v13 = .int .i64 n ∧ Aside0 (n = (j : Int) - 1) ∧ Aside0 (kq = j + 1 ∧ j ≤ L.length ∧ Q.length + j = L.length + 1 ∧ ∀ x, x ∈ Q ↔ x = exT drop ∨ x ∈ L.drop j) ∧ Aside0 (Duo W w' ga ba gb bb P Q) ∧ Aside0 (TRow W w' W.heap.size (.slice A7 L.length c7) L))
            case atStart => exact ⟨L.length, [exT drop], _, rfl, ⟨rfl⟩, ⟨rfl, Nat.le_refl _, by simp; omega, by simp⟩, HD7, HR7⟩
            case round =>
              clear HD7 HR7
              obtain ⟨j, Q, n, rfl, HN, HJ, HD, HR⟩ := hrel
              obtain ⟨kq1, rfl⟩ : ∃ kq1, gk = kq1 + 1 := ⟨j, HJ.out.1⟩
              cases j with
              | zero =>
                obtain rfl : n = -1 := by have := HN.out; omega
                have HS := Aside0.mk (duo_drop W wr ga ba gb bb P Q L drop HD.out hd HPL.out.2 (fun x => by rw [HJ.out.2.2.2 x, List.drop_zero]) HK.out.ne)
                clear HJ HD HR HN hji
                generalize chk (exT drop) = ce at *
                cases ce
                all_goals (
                  have e1 : crv false = 140 := rfl
                  have e2 : crv true = 0 := rfl
                  have e3 : drv false = 141 := rfl
                  have e4 : drv true = 0 := rfl
                  go_wp2_with (first
                    | (go_at_call 10; refine HS.out.mono ?_; rintro e w8 ⟨rfl, hs8⟩; obtain ⟨s, n, hE⟩ := same_enc_a W w8 ga ba gb bb hs8; have HE := Aside0.mk hE; clear hs8 hE)
                    | (go_at_call 11; refine HE2.out.mono ?_; rintro e w10 ⟨rfl, hs10⟩; obtain ⟨ln, hN⟩ := same_names W w10 ga ba gb bb hs10; have HN := Aside0.mk hN; clear hs10 hN)
                    | (go_at_call 11; refine HE.out.mono ?_; rintro e w9 ⟨rfl, -, hE2⟩; have HE2 := Aside0.mk hE2; clear hE2)
                    | (go_at_call 13; refine HN2.out.mono ?_; rintro e w12 ⟨B2, d2, rfl, ha2, hb2, hw2⟩; have HT2 := Aside0.mk (sameT_walk w12 A2 B2 ln c2 d2 ha2 hb2); have HW2 := Aside0.mk hw2; clear ha2 hb2 hw2)
                    | (go_at_call 13; refine HN.out.mono ?_; rintro e w11 ⟨A2, c2, rfl, -, -, hN2⟩; have HN2 := Aside0.mk hN2; clear hN2)
                    | (go_at_call 12; refine HT2.out.mono ?_; rintro e w13 ⟨rfl, hb13⟩; have HW3 := Aside0.mk (step HW2.out hb13); clear hb13))
                  go_ret
                  exact ⟨rfl, HW3.out⟩)
              | succ j0 =>
                obtain rfl : n = (j0 : Int) := by have := HN.out; omega
                have hj : j0 < L.length := by have := HJ.out.2.1; omega
                have hji : (0 : Int) ≤ (j0 : Int) := by omega
                have hji2 : (j0 : Int) < (L.length : Int) := by omega
                obtain ⟨ad, B, cb, D, cd, rfl, x0, x1, x2, x3, q1, q2, q3, q4⟩ := trow_at (Kd.R_reads' HR.out).2.2 j0 hj
                have hzi := HZ.out _ (HK.out.mem _ (List.getElem_mem hj))
                have hdd : ∀ x ∈ Q, x.nm ≠ (L[j0]).nm := fun x hx => by
                  rcases (HJ.out.2.2.2 x).1 hx with rfl | hx
                  · exact fun e => HK.out.ne _ (List.getElem_mem hj) e.symm
                  · exact nd_drop HK.out.nd hj x hx
                have htk : ∀ x, x ∈ L[j0] :: Q ↔ x = exT drop ∨ x ∈ L.drop j0 := fun x => by
                  rw [List.drop_eq_getElem_cons hj, List.mem_cons, List.mem_cons, HJ.out.2.2.2 x]
                  exact or_left_comm
                obtain ⟨t, ht⟩ : ∃ t, L[j0] = t := ⟨_, rfl⟩
                rw [ht] at x0 x1 x2 x3 q1 q2 q3 q4 hzi hdd htk
                have y1 := far_cell x1
                have y2 := far_cell x2
                have y3 := far_cell x3
                have HC1 := Aside0.mk (Kd.C_below q2 HD.out.below)
                have HC2 := Aside0.mk (Kd.C_below q4 HD.out.below)
                have HQ := Aside0.mk (show t.cols.length ≤ cb ∧ t.ixs.length ≤ cd from ⟨q1, q3⟩)
                have HZt := Aside0.mk hzi
                have HDd := Aside0.mk hdd
                have HTk := Aside0.mk htk
                have HHj := Aside0.mk hj
                clear q1 q2 q3 q4 hzi hdd htk ht hj
                go_wp2_with (go_at_call 9; refine (duo_b W _ ga ba gb bb P Q HD.out t B cb D cd HC1.out HQ.out.1 HC2.out HQ.out.2 HZt.out HDd.out (by have := HJ.out.2.2.1; omega)).mono ?_; rintro e w8 ⟨rfl, hd8, hf8, m8, ho8⟩; have HD8 := Aside0.mk hd8; have HR8 := Aside0.mk (TRow.map HR.out ho8 hf8); clear hd8 hf8 ho8)
                go_roundg kq1
                case measure => omega
                case rel => exact ⟨j0, t :: Q, _, rfl, ⟨rfl⟩, ⟨by have := HJ.out.1; omega, by have := HHj.out; omega, by have := HJ.out.2.2.1; simp; omega, HTk.out⟩, HD8, HR8⟩
end Go.Proofs.Ytjehbnhjaogfkaa.Sc
