import Derived.Test.YtjehbnhjaogfkaaSc5
namespace Go.Proofs.Ytjehbnhjaogfkaa.Sc
open Go.RowKit Go.Proofs.YtjehbnhjaogfkaaW.PrintWords Go.Proofs.YtjehbnhjaogfkaaW.PrintLast Go.Proofs.YtjehbnhjaogfkaaW.PrintMore
open Go.Proofs.Ytjehbnhjaogfkaa
set_option linter.unusedVariables false
set_option linter.unusedSimpArgs false
/-! The catalogue's map, each member as the value that it is. -/
def rawR (v : Value) : Option (DataW Value × List MemPlace) := some (.held v, [])
theorem rawR_inv {v u : Value} {ps : List MemPlace} (h : rawR v = some (.held u, ps)) : v = u := by
  have := (Prod.mk.inj (Option.some.inj h)).1
  exact DataW.held.inj this
def zt : Value := .agg #[.string ⟨#[]⟩, .slice none 0 0, .int .i64 0, .slice none 0 0]
abbrev OwnV (W : World) (b : Nat) (m : FM.T Value) : Prop := W.ownsMap (H := Value) Try.prog 9 rawR b m.length (FM.toD DataW.held m)
theorem ownV_tight {W : World} {b n : Nat} {m : FM.T Value} (h : W.ownsMap (H := Value) Try.prog 9 rawR b n (FM.toD DataW.held m)) : OwnV W b m := by
  obtain ⟨es, cl, h1, h2, h3, h4⟩ := h
  refine ⟨es, cl, h1, h2, ?_, h4⟩
  have := congrArg Maps.size h4
  rw [FM.toD_size, Maps.size_eq, length_sorted] at this
  rw [this]
  simp
theorem ownV_move {W W1 : World} {b : Nat} {m : FM.T Value} (h : OwnV W b m) (hb : W1.heap[b]? = W.heap[b]?) : OwnV W1 b m := by
  obtain ⟨es, cl, h1, h2⟩ := h
  exact ⟨es, cl, hb.trans h1, h2⟩
theorem zero30 (w : World) : (zeroValue 30).run Try.prog w = .ok zt w := by kernel_rfl
section
variable {ops : Array Oper} {rest : List Oper} {o : Oper} {a : Act} {Q : Exit → Act → World → Prop} {W : World}
theorem step_lookV (hg : o.guard = none) (m x : Operand) (hop : o.op = Op.lookup 62 m x true) (b : Nat) (fs : FM.T Value) (hm : a.eval m = .map (some b)) (hown : OwnV W b fs) (s : ByteArray) (hx : a.eval x = .string s) (hs : s.size ≤ maxLen)
    (hK : wpList Try.prog ops Q rest (a.put o.dst (.tuple #[(FM.get fs s.data.toList).getD zt, .bool (FM.get fs s.data.toList).isSome])) W) : wpList Try.prog ops Q (o :: rest) a W := by
  refine wpList_lookup_own_ok W hg m x 62 hop 9 30 (Go.Maps.string_keyed Try.underlying9) Try.underlying62 rawR (zero30 W) (DataW.held zt) [] rfl b fs.length _ hm hown (.string s) (.string s.data.toList) hx (key9 s hs) ?_
  intro v ps hv
  rw [FM.toD_at] at hv
  rw [FM.toD_has, rawR_inv hv]
  exact hK
theorem lookV_run (b : Nat) (fs : FM.T Value) (hown : OwnV W b fs) (s : ByteArray) (hs : s.size ≤ maxLen) : (Instr.lookup 62 (.map (some b)) (.string s) false).run Try.prog W = .ok ((FM.get fs s.data.toList).getD zt) W := by
  obtain ⟨v, ps, hr, hv⟩ := hown.lookup (Go.Maps.string_keyed Try.underlying9) Try.underlying62 (zero30 W) (rfl : rawR zt = some (DataW.held zt, [])) (key9 s hs)
  rw [FM.toD_at] at hv
  rw [hr, rawR_inv hv]
theorem step_putV (hg : o.guard = none) (m x v : Operand) (hop : o.op = Op.mapUpdate 62 m x v) (b : Nat) (fs : FM.T Value) (hm : a.eval m = .map (some b)) (hown : OwnV W b fs) (hn : fs.length ≤ 1000000) (s : ByteArray) (f : Value) (hx : a.eval x = .string s) (hv : a.eval v = f) (hs : s.size ≤ maxLen)
    (hK : ∀ W1, OwnV W1 b (FM.put fs s.data.toList f) → W.grownBy W1 (some b) → wpList Try.prog ops Q rest (a.put o.dst undef) W1) : wpList Try.prog ops Q (o :: rest) a W := by
  refine wpList_mapUpdate_own W hg m x v 62 hop 9 30 (Go.Maps.string_keyed Try.underlying9) Try.underlying62 rawR b fs.length _ hm hown (by unfold maxLen; omega) (.string s) f (.string s.data.toList) hx hv (key9 s hs) (DataW.held f) [] rfl ?_
  intro W1 h1 h2
  rw [FM.toD_put] at h1
  exact hK W1 (ownV_tight h1) h2
theorem step_delV (hg : o.guard = none) (m x : Operand) (hop : o.op = Op.call { callee := Callee.builtin Builtin.delete, args := #[m, x], argTypes := #[62, 9] }) (b : Nat) (fs : FM.T Value) (hm : a.eval m = .map (some b)) (hown : OwnV W b fs) (s : ByteArray) (hx : a.eval x = .string s) (hs : s.size ≤ maxLen)
    (hK : ∀ W1, OwnV W1 b (FM.del fs s.data.toList) → W.grownBy W1 (some b) → wpList Try.prog ops Q rest (a.put o.dst (.tuple #[])) W1) : wpList Try.prog ops Q (o :: rest) a W := by
  refine wpList_delete_own W hg m x 62 9 hop 30 (Go.Maps.string_keyed Try.underlying9) Try.underlying62 rawR b fs.length _ hm hown (.string s) (.string s.data.toList) hx (key9 s hs) ?_
  intro W1 h1 h2
  rw [FM.toD_del] at h1
  refine hK W1 (ownV_tight h1) ?_
  obtain ⟨es, cl, es', cl', hb, rfl⟩ := h2
  exact ⟨rfl, rfl, rfl, by simp [ChangeMaps.setBlock], fun i _ hi => ChangeMaps.heap_setBlock_other hb _ (fun e => hi (by rw [e]))⟩
theorem step_lenV (hg : o.guard = none) (m : Operand) (hop : o.op = Op.call { callee := Callee.builtin Builtin.len, args := #[m], argTypes := #[62] }) (b : Nat) (fs : FM.T Value) (hm : a.eval m = .map (some b)) (hown : OwnV W b fs)
    (hK : wpList Try.prog ops Q rest (a.put o.dst (.int .i64 (fs.length : Int))) W) : wpList Try.prog ops Q (o :: rest) a W := by
  refine wpList_len_own W hg m 62 hop 9 30 Try.underlying62 rawR b fs.length _ hm hown ?_
  rw [FM.toD_size]
  exact hK
end
/-! A map's members, turned one by one. -/
section
variable {V U : Type} (f : V → U)
def mapV (m : FM.T V) : FM.T U := m.map fun p => (p.1, f p.2)
theorem mapV_len (m : FM.T V) : (mapV f m).length = m.length := by simp [mapV]
theorem mapV_keys (m : FM.T V) : FM.keys (mapV f m) = FM.keys m := by simp [mapV, FM.keys]
theorem mapV_ins (k : FM.Key) (v : V) : ∀ m : FM.T V, mapV f (FM.ins (k, v) m) = FM.ins (k, f v) (mapV f m)
  | [] => rfl
  | y :: r => by
    have ih := mapV_ins k v r
    simp only [FM.ins, mapV, List.map_cons] at ih ⊢
    split
    · rfl
    · rw [List.map_cons, ih]
theorem mapV_del (k : FM.Key) (m : FM.T V) : mapV f (FM.del m k) = FM.del (mapV f m) k := by
  simp [mapV, FM.del, List.filter_map, Function.comp_def]
theorem mapV_put (k : FM.Key) (v : V) (m : FM.T V) : mapV f (FM.put m k v) = FM.put (mapV f m) k (f v) := by
  rw [FM.put, mapV_ins, mapV_del]
  rfl
theorem mapV_get (k : FM.Key) (m : FM.T V) : FM.get (mapV f m) k = (FM.get m k).map f := by
  simp [mapV, FM.get, List.find?_map, Function.comp_def]
end
/-- The schemas that a catalogue holds. -/
abbrev CatM := FM.T (Value × Tb)
/-- A catalogue at block g, its map at block b. -/
structure IsCat (ok : Nat → Prop) (W : World) (g b : Nat) (M : CatM) : Prop where
  blk : W.heap[g]? = some (.cells #[.map (some b)] 64 (0, 0))
  own : OwnV W b (mapV (·.1) M)
  tb : ∀ p ∈ M, p.1 = p.2.2.nm.data.toList ∧ chk p.2.2 = true ∧ OwnTb ok 0 W p.2.1 p.2.2
  st : FL.St M
  len : M.length ≤ 4096
theorem OwnTb.move {ok : Nat → Prop} {base : Nat} {W W1 : World} {v : Value} {t : Tb} (h : OwnTb ok base W v t) (hm : ∀ k, ok k → k < W.heap.size → (∃ q cells, (q = 32 ∨ q = 67 ∨ q = 3) ∧ W.heap[k]? = some (.cells cells q (0, 0))) → W1.heap[k]? = W.heap[k]?) : OwnTb ok base W1 v t := by
  obtain ⟨v1, v2, e, h1, h2⟩ := h
  refine ⟨v1, v2, e, Kd.R_mono (Kd.R_move (Kd.R_bound h1) fun k hk => ?_) fun k hk => hk.1, Kd.R_mono (Kd.R_move (Kd.R_bound h2) fun k hk => ?_) fun k hk => hk.1⟩
  · obtain ⟨h0, -, h3, q, hq, cells, hc⟩ := hk
    refine hm k h0 h3 ⟨q, cells, ?_, hc⟩
    have : q ∈ [32] := hq
    simp at this
    exact .inl this
  · obtain ⟨h0, -, h3, q, hq, cells, hc⟩ := hk
    refine hm k h0 h3 ⟨q, cells, ?_, hc⟩
    have : q ∈ [67, 3] := hq
    simp at this
    exact .inr this
theorem OwnTb.mono {ok ok' : Nat → Prop} {base base' : Nat} {W : World} {v : Value} {t : Tb} (h : OwnTb ok base W v t) (hok : ∀ k, ok k → base ≤ k → k < W.heap.size → ok' k) (hb : base' ≤ base) : OwnTb ok' base' W v t := by
  obtain ⟨v1, v2, e, h1, h2⟩ := h
  exact ⟨v1, v2, e, Kd.R_lower (Kd.R_mono (Kd.R_bound h1) fun k hk => hok k hk.1 hk.2.1 hk.2.2.1) hb, Kd.R_lower (Kd.R_mono (Kd.R_bound h2) fun k hk => hok k hk.1 hk.2.1 hk.2.2.1) hb⟩
/-- What a schema's value reads as. -/
theorem OwnTb.reads {ok : Nat → Prop} {base : Nat} {W : World} {v : Value} {t : Tb} (h : OwnTb ok base W v t) : ∃ A ca B cb, v = .agg #[.string t.nm, .slice A t.cols.length ca, .int .i64 t.key, .slice B t.ixs.length cb] ∧ t.cols.length ≤ ca ∧ kcol.C W A t.cols.length t.cols ∧ t.ixs.length ≤ cb ∧ kix.C W B t.ixs.length t.ixs := by
  obtain ⟨v1, v2, rfl, h1, h2⟩ := h
  obtain ⟨A, ca, rfl, hl, hC⟩ := Kd.R_reads h1
  obtain ⟨B, cb, rfl, hl2, hC2⟩ := Kd.R_reads h2
  exact ⟨A, ca, B, cb, rfl, hl, hC, hl2, hC2⟩
theorem IsCat.lt {ok : Nat → Prop} {W : World} {g b : Nat} {M : CatM} (h : IsCat ok W g b M) : g < W.heap.size ∧ b < W.heap.size := ⟨blk_lt h.blk, h.own.lt⟩
theorem IsCat.ne {ok : Nat → Prop} {W : World} {g b : Nat} {M : CatM} (h : IsCat ok W g b M) : g ≠ b := fun e => by
  obtain ⟨es, cl, hb, _⟩ := h.own
  rw [← e, h.blk] at hb
  cases hb
/-- What is not the catalogue's may change. -/
theorem IsCat.fr {ok : Nat → Prop} {W W1 : World} {g b : Nat} {M : CatM} {S : Nat → Prop} (h : IsCat ok W g b M) (hf : Fr S W W1) (hg : ¬ S g) (hb : ¬ S b) (hS : ∀ k, ok k → ¬ S k) : IsCat ok W1 g b M :=
  ⟨(hf.block g h.lt.1 hg).trans h.blk, ownV_move h.own (hf.block b h.lt.2 hb), fun p hp => ⟨(h.tb p hp).1, (h.tb p hp).2.1, (h.tb p hp).2.2.move fun k hk hlt _ => hf.block k hlt (hS k hk)⟩, h.st, h.len⟩
theorem IsCat.below {ok : Nat → Prop} {W W1 : World} {g b : Nat} {M : CatM} (h : IsCat ok W g b M) (hb : Below W.heap.size W W1) : IsCat ok W1 g b M := h.fr (S := fun _ => False) ⟨hb.os, hb.tape, hb.output, hb.size, fun k hk _ => hb.block k hk⟩ (fun h => h) (fun h => h) (fun _ _ h => h)
theorem IsCat.mono {ok ok' : Nat → Prop} {W : World} {g b : Nat} {M : CatM} (h : IsCat ok W g b M) (hok : ∀ k, ok k → k < W.heap.size → ok' k) : IsCat ok' W g b M := ⟨h.blk, h.own, fun p hp => ⟨(h.tb p hp).1, (h.tb p hp).2.1, (h.tb p hp).2.2.mono (fun k hk _ hlt => hok k hk hlt) (Nat.le_refl _)⟩, h.st, h.len⟩
theorem new_walk (w : World) : Calls Try.prog 7 #[] w fun e w' => e = .returned (.pointer (some ⟨w.heap.size + 1, 0, none⟩)) ∧ IsCat (fun _ => True) w' (w.heap.size + 1) w.heap.size [] ∧ Below w.heap.size w w' := by
  have hmm := @run_makeMap Try.prog
  go_enter Try.func7, Try.ntmps7
  go_wp2
  go_ret
  refine ⟨rfl, ⟨?_, ?_, fun p hp => by simp at hp, List.Pairwise.nil, by simp⟩, below_alloc (below_alloc (Below.refl _ _) _) _⟩
  · have := heap_alloc_new (w.alloc (.map #[] 0)) (.cells #[.map (some w.heap.size)] 64)
    rw [show (w.alloc (.map #[] 0)).heap.size = w.heap.size + 1 by simp] at this
    exact this
  · exact (World.ownsMap_made w Try.prog 9 rawR).alloc _
end Go.Proofs.Ytjehbnhjaogfkaa.Sc
