import Derived.Test.YtjehbnhjaogfkaaSc19
import Derived.Deep.Slices
import Derived.Deep.Fields
import Derived.ChangeSame
import Derived.SizedLaws
import Derived.ChangeOld
import Derived.DataReads
namespace Go.Proofs.Ytjehbnhjaogfkaa.Sc
open Go.RowKit Go.Deep Go.ChangeShapes Go.WideShapes Go.Proofs.YtjehbnhjaogfkaaW.PrintWords
set_option linter.unusedVariables false
set_option linter.unusedSimpArgs false
section
variable {H : Type} {enc : TypeId × Value → H} {W : World} {held : Bool}
theorem weightsAll_mem {P : Program} {e : TypeId} {d : DataW H} {n : Nat} (hn : n ∈ d.weights P e) : ∀ {ds : List (DataW H)}, d ∈ ds → n ∈ DataW.weightsAll P e ds
  | x :: r, h => by
    simp only [DataW.weightsAll, List.mem_append]
    rcases List.mem_cons.1 h with rfl | h
    · exact .inl hn
    · exact .inr (weightsAll_mem hn h)
theorem list_of {α : Type} {P : Nat → α → Prop} : ∀ {n : Nat}, (∀ i, i < n → ∃ x, P i x) → ∃ l : List α, l.length = n ∧ ∀ i (h : i < l.length), P i l[i]
  | 0, _ => ⟨[], rfl, fun i h => absurd h (by simp)⟩
  | n + 1, h => by
    obtain ⟨l, hl, hp⟩ := list_of (n := n) fun i hi => h i (by omega)
    obtain ⟨x, hx⟩ := h n (by omega)
    refine ⟨l ++ [x], by simp [hl], fun i hi => ?_⟩
    by_cases hil : i < l.length
    · rw [List.getElem_append_left hil]; exact hp i hil
    · have : i = n := by simp at hi; omega
      subst this
      rw [List.getElem_append_right (by omega)]
      simpa [hl] using hx
theorem add_add (ad : Addr) (i j : Nat) : (ad.add i).add j = ad.add (i + j) := by
  obtain ⟨a, b, c⟩ := ad
  by_cases hi : i = 0 <;> by_cases hj : j = 0 <;> simp [Addr.add, hi, hj, Nat.add_assoc]
/-- A slice that came in: its members by a kind. -/
theorem sl_open {α : Type} (d : Kd α) (G : α → Prop) {t e : TypeId} (ht : Try.prog.underlying t = some (.slice e)) (hce : Try.prog.cellsOf e = d.sz) (hB : 0 < Try.prog.bytesOf e)
    (elem : ∀ {fuel : Nat} {cs : List Value} {y : DataW H × List MemPlace}, DataW.trod enc Try.prog W 0 (fun _ => true) held fuel e cs = some y → cs.length = d.sz → (∀ b ∈ DataW.weights Try.prog e y.1, b ≤ reachBytes) → ∃ a : α, d.K W a cs ∧ G a)
    {fuel : Nat} {c : Value} {x : DataW H × List MemPlace} (h : DataW.trod enc Try.prog W 0 (fun _ => true) held fuel t [c] = some x) (hw : ∀ b ∈ DataW.weights Try.prog t x.1, b ≤ reachBytes) :
    ∃ (A : Option Addr) (l : List α) (cap : Nat), c = .slice A l.length cap ∧ d.C W A l.length l ∧ l.length ≤ cap ∧ (∀ a ∈ l, G a) ∧ l.length ≤ 140737488355328 := by
  rcases open_slice ht h with ⟨hcs, _⟩ | ⟨ad, n, cap, m, n2, D, Pl, hcs, _, hl, hm, hmm, hx, hi⟩
  · simp only [List.cons.injEq, and_true] at hcs
    subst hcs
    exact ⟨none, [], 0, rfl, Kd.C_nil _ _, Nat.zero_le _, by simp, by simp⟩
  · simp only [List.cons.injEq, and_true] at hcs
    subst hcs
    have hmc : m = cap := by simpa using hmm
    subst hmc
    have hxd : x.1 = .slice ((List.range n).map D) ((List.range (m - n)).map fun j => D (n + j)) := by rw [hx]
    obtain ⟨l, hll, hpl⟩ := list_of (n := n) (P := fun i (a : α) => G a ∧ ∃ c, c.length = d.sz ∧ d.K W a c ∧ ∀ j u, c[j]? = some u → W.cell? (ad.add (i * d.sz + j)) = some u) (fun i hin => by
      obtain ⟨cs', hc, ht'⟩ := hi i (by omega)
      obtain ⟨_, hcl, hat⟩ := World.cells?_some hc
      rw [hce] at hcl
      obtain ⟨a, hK, hG⟩ := elem ht' hcl (fun b hb => hw b (by
        rw [hxd]
        simp only [DataW.weights, ht, List.mem_cons, List.mem_append]
        exact .inr (.inl (weightsAll_mem hb (List.mem_map.2 ⟨i, List.mem_range.2 hin, rfl⟩)))))
      refine ⟨a, hG, cs', hcl, hK, fun j u hj => ?_⟩
      have hjl : j < d.sz := by have := (List.getElem?_eq_some_iff.1 hj).1; omega
      have := hat j (by rw [hce]; exact hjl)
      rw [add_add, hce, hj] at this
      exact this)
    have hlen : n ≤ 140737488355328 := by
      have h1 := hw ((n + (m - n)) * Try.prog.bytesOf e) (by
        rw [hxd]
        simp [DataW.weights, ht])
      have h2 : n + (m - n) ≤ (n + (m - n)) * Try.prog.bytesOf e := Nat.le_mul_of_pos_right _ hB
      have hr : reachBytes ≤ 140737488355328 := by decide
      omega
    refine ⟨some ad, l, m, by rw [hll], ⟨rfl, by omega, fun _ => ⟨ad, rfl, fun i p hp => ?_⟩⟩, by omega, fun a ha => ?_, by omega⟩
    · obtain ⟨h1, h2⟩ := List.getElem?_eq_some_iff.1 hp
      obtain ⟨-, c, hc⟩ := hpl i h1
      rw [h2] at hc
      exact ⟨c, hc⟩
    · obtain ⟨i, h1, h2⟩ := List.getElem_of_mem ha
      rw [← h2]
      exact (hpl i h1).1
theorem two {α : Type} {l : List α} (h : l.length = 2) : ∃ a b, l = [a, b] := by
  match l, h with
  | [a, b], _ => exact ⟨a, b, rfl⟩
theorem three {α : Type} {l : List α} (h : l.length = 3) : ∃ a b c, l = [a, b, c] := by
  match l, h with
  | [a, b, c], _ => exact ⟨a, b, c, rfl⟩
theorem four {α : Type} {l : List α} (h : l.length = 4) : ∃ a b c d, l = [a, b, c, d] := by
  match l, h with
  | [a, b, c, d], _ => exact ⟨a, b, c, d, rfl⟩
theorem int_elem {fuel : Nat} {cs : List Value} {y : DataW H × List MemPlace} (h : DataW.trod enc Try.prog W 0 (fun _ => true) held fuel 3 cs = some y) : ∃ a : Int, (Kd.int .i64).K W a cs ∧ inR a := by
  obtain ⟨n, e, _, w⟩ := DataW.trod_int Try.underlying3 h
  refine ⟨n, e, ?_⟩
  unfold inR
  simp [Lit.wf, IntKind.min, IntKind.max, IntKind.bits, IntKind.signed] at w
  omega
theorem weights_at {P : Program} {ts : List TypeId} {ds : List (DataW H)} {R : Nat} (hw : ∀ b ∈ DataW.weightsEach P ts ds, b ≤ R) {j : Nat} {t : TypeId} {d : DataW H} (ht : ts[j]? = some t) (hd : ds[j]? = some d) : ∀ b ∈ DataW.weights P t d, b ≤ R := fun b hb => hw b (DataW.weights_mem_each ht hd b hb)
theorem col_elem {fuel : Nat} {cs : List Value} {y : DataW H × List MemPlace} (h : DataW.trod enc Try.prog W 0 (fun _ => true) held fuel 32 cs = some y) : ∃ a : Col, kcol.K W a cs ∧ a.nm.size ≤ maxLen ∧ inR a.kd := by
  obtain ⟨y0, y1, n, -, hl, t0, t1⟩ := trod_struct2 Try.underlying32 h
  have k32 : Try.prog.cellsOf 32 = 2 := by kernel_rfl
  have k3 : Try.prog.cellsOf 3 = 1 := by kernel_rfl
  have k9 : Try.prog.cellsOf 9 = 1 := by kernel_rfl
  rw [k32] at hl
  obtain ⟨c0, c1, rfl⟩ := two hl
  simp only [k9, k3, List.drop_zero, List.take_succ_cons, List.take_zero, List.drop_succ_cons] at t0 t1
  obtain ⟨s, e0, _, w0⟩ := DataW.trod_string Try.underlying9 t0
  obtain ⟨k, e1, w1⟩ := int_elem t1
  have e1 : [c1] = [.int .i64 k] := e1
  simp only [List.cons.injEq, and_true] at e0 e1
  subst e0 e1
  exact ⟨⟨s, k⟩, kcol_K.2 rfl, w0, w1⟩
theorem k3 : Try.prog.cellsOf 3 = 1 := by kernel_rfl
theorem k4 : Try.prog.cellsOf 4 = 1 := by kernel_rfl
theorem k9 : Try.prog.cellsOf 9 = 1 := by kernel_rfl
theorem k65 : Try.prog.cellsOf 65 = 1 := by kernel_rfl
theorem k67 : Try.prog.cellsOf 67 = 3 := by kernel_rfl
theorem k27 : Try.prog.cellsOf 27 = 1 := by kernel_rfl
theorem k28 : Try.prog.cellsOf 28 = 1 := by kernel_rfl
theorem k30 : Try.prog.cellsOf 30 = 4 := by kernel_rfl
theorem b3 : 0 < Try.prog.bytesOf 3 := by rw [show Try.prog.bytesOf 3 = 8 from by kernel_rfl]; decide
theorem b32 : 0 < Try.prog.bytesOf 32 := by rw [show Try.prog.bytesOf 32 = 24 from by kernel_rfl]; decide
theorem b67 : 0 < Try.prog.bytesOf 67 := by rw [show Try.prog.bytesOf 67 = 48 from by kernel_rfl]; decide
theorem b30 : 0 < Try.prog.bytesOf 30 := by rw [show Try.prog.bytesOf 30 = 72 from by kernel_rfl]; decide
theorem ix_elem {fuel : Nat} {cs : List Value} {y : DataW H × List MemPlace} (h : DataW.trod enc Try.prog W 0 (fun _ => true) held fuel 67 cs = some y) (hw : ∀ b ∈ DataW.weights Try.prog 67 y.1, b ≤ reachBytes) : ∃ a : Ix, kix.K W a cs ∧ (a.nm.size ≤ maxLen ∧ a.cols.length ≤ 140737488355328 ∧ ∀ n ∈ a.cols, inR n) := by
  obtain ⟨xs, n, _, hx, hl, hxl, hg⟩ := DataW.trod_struct Try.underlying67 h
  rw [k67] at hl
  obtain ⟨c0, c1, c2, rfl⟩ := three hl
  obtain ⟨y0, y1, y2, rfl⟩ := three hxl
  have t0 : DataW.trod enc Try.prog W 0 (fun _ => true) held n 9 [c0] = some y0 := by simpa [k9] using hg 0 _ rfl
  have t1 : DataW.trod enc Try.prog W 0 (fun _ => true) held n 65 [c1] = some y1 := by simpa [k65] using hg 1 _ rfl
  have t2 : DataW.trod enc Try.prog W 0 (fun _ => true) held n 4 [c2] = some y2 := by simpa [k4] using hg 2 _ rfl
  have hw2 : ∀ b ∈ DataW.weightsEach Try.prog [9, 65, 4] [y0.1, y1.1, y2.1], b ≤ reachBytes := fun b hb => hw b (by
    rw [hx]
    simp only [DataW.weights, Try.underlying67]
    exact hb)
  obtain ⟨s, e0, _, w0⟩ := DataW.trod_string Try.underlying9 t0
  obtain ⟨A, l, cap, e1, hC, hcap, hG, hlen⟩ := sl_open (Kd.int .i64) inR Try.underlying65 k3 b3 (fun h _ _ => int_elem h) t1 (weights_at hw2 (j := 1) rfl rfl)
  obtain ⟨q, e2, _⟩ := DataW.trod_bool Try.underlying4 t2
  simp only [List.cons.injEq, and_true] at e0 e2
  subst e0 e1 e2
  exact ⟨⟨s, l, q⟩, kix_K.2 ⟨A, cap, rfl, hcap, hC⟩, w0, hlen, hG⟩
/-- What an argument's schema is of. -/
structure TIn (t : Tb) : Prop where
  sz : TSz t
  key : inR t.key
  cr : ∀ x ∈ t.cols, inR x.kd
  xr : ∀ x ∈ t.ixs, ∀ n ∈ x.cols, inR n
theorem tb_elem {fuel : Nat} {cs : List Value} {y : DataW H × List MemPlace} (h : DataW.trod enc Try.prog W 0 (fun _ => true) held fuel 30 cs = some y) (hw : ∀ b ∈ DataW.weights Try.prog 30 y.1, b ≤ reachBytes) : ∃ a : Tb, ktb.K W a cs ∧ TIn a := by
  obtain ⟨xs, n, _, hx, hl, hxl, hg⟩ := DataW.trod_struct Try.underlying30 h
  rw [k30] at hl
  obtain ⟨c0, c1, c2, c3, rfl⟩ := four hl
  obtain ⟨y0, y1, y2, y3, rfl⟩ := four hxl
  have t0 : DataW.trod enc Try.prog W 0 (fun _ => true) held n 9 [c0] = some y0 := by simpa [k9] using hg 0 _ rfl
  have t1 : DataW.trod enc Try.prog W 0 (fun _ => true) held n 27 [c1] = some y1 := by simpa [k27] using hg 1 _ rfl
  have t2 : DataW.trod enc Try.prog W 0 (fun _ => true) held n 3 [c2] = some y2 := by simpa [k3] using hg 2 _ rfl
  have t3 : DataW.trod enc Try.prog W 0 (fun _ => true) held n 28 [c3] = some y3 := by simpa [k28] using hg 3 _ rfl
  have hw2 : ∀ b ∈ DataW.weightsEach Try.prog [9, 27, 3, 28] [y0.1, y1.1, y2.1, y3.1], b ≤ reachBytes := fun b hb => hw b (by
    rw [hx]
    simp only [DataW.weights, Try.underlying30]
    exact hb)
  obtain ⟨s, e0, _, w0⟩ := DataW.trod_string Try.underlying9 t0
  obtain ⟨A, l, ca, e1, hC, hca, hG, hlen⟩ := sl_open kcol (fun a => a.nm.size ≤ maxLen ∧ inR a.kd) Try.underlying27 (by kernel_rfl) b32 (fun h _ _ => col_elem h) t1 (weights_at hw2 (j := 1) rfl rfl)
  obtain ⟨k, e2, w2⟩ := int_elem t2
  obtain ⟨B, l3, cb, e3, hC3, hcb, hG3, hlen3⟩ := sl_open kix (fun a => a.nm.size ≤ maxLen ∧ a.cols.length ≤ 140737488355328 ∧ ∀ n ∈ a.cols, inR n) Try.underlying28 k67 b67 (fun h _ hw => ix_elem h hw) t3 (weights_at hw2 (j := 3) rfl rfl)
  have e2 : [c2] = [.int .i64 k] := e2
  simp only [List.cons.injEq, and_true] at e0 e2
  subst e0 e1 e2 e3
  exact ⟨⟨s, l, k, l3⟩, ktb_K.2 ⟨A, ca, B, cb, rfl, hca, hC, hcb, hC3⟩, ⟨w0, fun x hx => (hG x hx).1, fun x hx => (hG3 x hx).1, hlen, hlen3, fun x hx => (hG3 x hx).2.1⟩, w2, fun x hx => (hG x hx).2, fun x hx => (hG3 x hx).2.2⟩
set_option maxRecDepth 100000 in
theorem tabs_open {base : Nat} {v : Value} {d : DataW H} {ps : List MemPlace} {ts : List TypeId} {ds : List (DataW H)} {j : Nat}
    (hsz : (DataW.weightsEach Try.prog ts ds).all (· ≤ reachBytes) = true) (htj : ts[j]? = some 22) (hdj : ds[j]? = some d)
    (hv : Value.okWide Try.prog W .any base 22 v) (h : DataW.Trod enc Try.prog W 0 (fun _ => true) true 22 v d ps) :
    ∃ (A : Option Addr) (l : List Tb) (c : Nat), v = .slice A l.length c ∧ (ktb.C W A l.length l ∧ ∀ t ∈ l, TIn t) ∧ l.length ≤ c := by
  obtain ⟨A, n, c, rfl⟩ := okWide_slice Try.underlying22 hv
  obtain ⟨fuel, hf⟩ := h
  have hw : ∀ b ∈ DataW.weights Try.prog 22 d, b ≤ reachBytes := fun b hb => of_decide_eq_true (List.all_eq_true.1 hsz _ (DataW.weights_mem_each htj hdj b hb))
  have hf : DataW.trod enc Try.prog W 0 (fun _ => true) true fuel 22 [.slice A n c] = some (d, ps) := hf
  obtain ⟨A', l, cap, e, hC, hcap, hG, -⟩ := sl_open ktb TIn Try.underlying22 k30 b30 (fun h _ hw => tb_elem h hw) hf hw
  exact ⟨A', l, cap, e, ⟨hC, hG⟩, hcap⟩
end
end Go.Proofs.Ytjehbnhjaogfkaa.Sc
