import Derived.Test.YtjkllbilfcopmaaDk1
namespace Go.Proofs.Ytjkllbilfcopmaa.Dk
open Go.RowKit Go.Proofs.YtjkllbilfcopmaaW.PrintWords Go.Proofs.YtjkllbilfcopmaaW.PrintLast Go.Proofs.YtjkllbilfcopmaaW.PrintMore
set_option linter.unusedVariables false
set_option linter.unusedSimpArgs false
theorem zero56 (w : World) : (zeroValue 56).run Try.prog w = .ok (fileV z0) w := by kernel_rfl
theorem key9 (s : ByteArray) (hs : s.size ≤ maxLen) : keyOf Try.prog 9 (.string s) = some (.string s.data.toList) := by
  simp [keyOf, mapKey, Try.underlying9, hs]
section
variable {ops : Array Oper} {rest : List Oper} {o : Oper} {a : Act} {Q : Exit → Act → World → Prop} {W : World}
theorem step_look (hg : o.guard = none) (m x : Operand) (hop : o.op = Op.lookup 51 m x true) (b : Nat) (fs : Fs) (hm : a.eval m = .map (some b)) (hown : Own W b fs) (s : ByteArray) (hx : a.eval x = .string s) (hs : s.size ≤ maxLen)
    (hK : wpList Try.prog ops Q rest (a.put o.dst (.tuple #[fileV ((FM.get fs s.data.toList).getD z0), .bool (FM.get fs s.data.toList).isSome])) W) : wpList Try.prog ops Q (o :: rest) a W := by
  refine wpList_lookup_own_ok W hg m x 51 hop 9 56 (Go.Maps.string_keyed Try.underlying9) Try.underlying51 fileR (zero56 W) (fileD z0) [] (fileR_mk z0) b fs.length _ hm hown (.string s) (.string s.data.toList) hx (key9 s hs) ?_
  intro v ps hv
  rw [FM.toD_at] at hv
  rw [FM.toD_has, fileR_inv hv]
  exact hK
theorem look_run (b : Nat) (fs : Fs) (hown : Own W b fs) (s : ByteArray) (hs : s.size ≤ maxLen) : (Instr.lookup 51 (.map (some b)) (.string s) false).run Try.prog W = .ok (fileV ((FM.get fs s.data.toList).getD z0)) W := by
  obtain ⟨v, ps, hr, hv⟩ := hown.lookup (Go.Maps.string_keyed Try.underlying9) Try.underlying51 (zero56 W) (fileR_mk z0) (key9 s hs)
  rw [FM.toD_at] at hv
  rw [hr, fileR_inv hv]
theorem step_put (hg : o.guard = none) (m x v : Operand) (hop : o.op = Op.mapUpdate 51 m x v) (b : Nat) (fs : Fs) (hm : a.eval m = .map (some b)) (hown : Own W b fs) (hn : fs.length ≤ 1000000) (s : ByteArray) (f : Fl) (hx : a.eval x = .string s) (hv : a.eval v = fileV f) (hs : s.size ≤ maxLen)
    (hK : ∀ W1, Own W1 b (FM.put fs s.data.toList f) → W.grownBy W1 (some b) → wpList Try.prog ops Q rest (a.put o.dst undef) W1) : wpList Try.prog ops Q (o :: rest) a W := by
  refine wpList_mapUpdate_own W hg m x v 51 hop 9 56 (Go.Maps.string_keyed Try.underlying9) Try.underlying51 fileR b fs.length _ hm hown (by unfold maxLen; omega) (.string s) (fileV f) (.string s.data.toList) hx hv (key9 s hs) (fileD f) [] (fileR_mk f) ?_
  intro W1 h1 h2
  rw [FM.toD_put] at h1
  exact hK W1 (own_tight h1) h2
theorem step_del (hg : o.guard = none) (m x : Operand) (hop : o.op = Op.call { callee := Callee.builtin Builtin.delete, args := #[m, x], argTypes := #[51, 9] }) (b : Nat) (fs : Fs) (hm : a.eval m = .map (some b)) (hown : Own W b fs) (s : ByteArray) (hx : a.eval x = .string s) (hs : s.size ≤ maxLen)
    (hK : ∀ W1, Own W1 b (FM.del fs s.data.toList) → W.grownBy W1 (some b) → wpList Try.prog ops Q rest (a.put o.dst (.tuple #[])) W1) : wpList Try.prog ops Q (o :: rest) a W := by
  refine wpList_delete_own W hg m x 51 9 hop 56 (Go.Maps.string_keyed Try.underlying9) Try.underlying51 fileR b fs.length _ hm hown (.string s) (.string s.data.toList) hx (key9 s hs) ?_
  intro W1 h1 h2
  rw [FM.toD_del] at h1
  refine hK W1 (own_tight h1) ?_
  obtain ⟨es, cl, es', cl', hb, rfl⟩ := h2
  exact ⟨rfl, rfl, rfl, by simp [ChangeMaps.setBlock], fun i _ hi => ChangeMaps.heap_setBlock_other hb _ (fun e => hi (by rw [e]))⟩
theorem step_len (hg : o.guard = none) (m : Operand) (hop : o.op = Op.call { callee := Callee.builtin Builtin.len, args := #[m], argTypes := #[51] }) (b : Nat) (fs : Fs) (hm : a.eval m = .map (some b)) (hown : Own W b fs)
    (hK : wpList Try.prog ops Q rest (a.put o.dst (.int .i64 (fs.length : Int))) W) : wpList Try.prog ops Q (o :: rest) a W := by
  refine wpList_len_own W hg m 51 hop 9 56 Try.underlying51 fileR b fs.length _ hm hown ?_
  rw [FM.toD_size]
  exact hK
end
theorem known_walk (W : World) (g b : Nat) (d : DS) (h : IsDk W g b d) (s : ByteArray) (hs : s.size ≤ maxLen) : Calls Try.prog 28 #[.pointer (some ⟨g, 0, none⟩), .string s] W fun e W' => e = .returned (.tuple #[fileV (known d s).1, .int .i64 (known d s).2]) ∧ Below W.heap.size W W' := by
  have HI := Lib.hid h
  have c0 := (blk_cell h.blk 0).trans (show _ = some (Value.map (some b)) from rfl)
  have hg := h.lt.1
  clear h
  cases hN : nameOk s with
  | false =>
    have HK := Lib.hid (show known d s = (z0, 10) by unfold known; rw [hN]; rfl)
    rw [HK.out]
    have HN := Lib.hid hN
    clear hN
    go_enter Try.func28, Try.ntmps28
    go_wp2_with (first | (go_at_call 24; refine (may_walk s _ hs).mono ?_; rw [HN.out]; rintro e w' ⟨rfl, rfl⟩))
    exact bodyPost_ret (v := .tuple #[fileV z0, .int .i64 10]) (by simp [results, Try.results28, go_sem, fileV, z0]; rfl) rfl ⟨rfl, below_alloc (Below.refl _ _) _⟩
  | true =>
    have HN := Lib.hid hN
    obtain ⟨⟨fh, fs⟩, hf⟩ : ∃ f, (FM.get d.m s.data.toList).getD z0 = f := ⟨_, rfl⟩
    have HF := Lib.hid hf
    cases hT : there d s with
    | false =>
      have HK := Lib.hid (show known d s = (z0, 5) by unfold known; rw [hN, hT]; rfl)
      rw [HK.out]
      have HT := Lib.hid (show (FM.get d.m s.data.toList).isSome = false from hT)
      clear hN hf hT
      go_enter Try.func28, Try.ntmps28
      go_wp2_with (first | (go_at_call 24; refine (may_walk s _ hs).mono ?_; rw [HN.out]; rintro e w' ⟨rfl, rfl⟩) | (at_lookup; refine step_look rfl _ _ rfl b d.m rfl ((HI.out.below (below_alloc (Below.refl _ _) _)).own) s rfl hs ?_; rw [HT.out, HF.out]; simp only [fileV]))
      exact bodyPost_ret (v := .tuple #[fileV z0, .int .i64 5]) (by simp [results, Try.results28, go_sem, fileV, z0]; rfl) rfl ⟨rfl, below_alloc (below_alloc (Below.refl _ _) _) _⟩
    | true =>
      have HK := Lib.hid (show known d s = (⟨fh, fs⟩, 0) by unfold known file; rw [hN, hT, hf]; rfl)
      rw [HK.out]
      have HT := Lib.hid (show (FM.get d.m s.data.toList).isSome = true from hT)
      clear hN hf hT
      go_enter Try.func28, Try.ntmps28
      go_wp2_with (first | (go_at_call 24; refine (may_walk s _ hs).mono ?_; rw [HN.out]; rintro e w' ⟨rfl, rfl⟩) | (at_lookup; refine step_look rfl _ _ rfl b d.m rfl ((HI.out.below (below_alloc (Below.refl _ _) _)).own) s rfl hs ?_; rw [HT.out, HF.out]; simp only [fileV]))
      exact bodyPost_ret (v := .tuple #[fileV ⟨fh, fs⟩, .int .i64 0]) (by simp [results, Try.results28, go_sem, fileV]) rfl ⟨rfl, below_alloc (below_alloc (Below.refl _ _) _) _⟩
end Go.Proofs.Ytjkllbilfcopmaa.Dk
