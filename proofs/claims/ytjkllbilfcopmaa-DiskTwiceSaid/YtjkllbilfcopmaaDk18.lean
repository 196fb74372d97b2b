import Derived.Test.YtjkllbilfcopmaaDk17
import Derived.Deep.Slices
import Derived.Deep.Fields
import Derived.ChangeSame
import Derived.SizedLaws
import Derived.ChangeOld
import Derived.DataReads
namespace Go.Proofs.Ytjkllbilfcopmaa.Dk
open Go.RowKit Go.Deep Go.ChangeShapes Go.WideShapes Go.Proofs.YtjkllbilfcopmaaW.PrintWords
set_option linter.unusedVariables false
set_option linter.unusedSimpArgs false
section
variable {H : Type} {enc : TypeId × Value → H} {W : World} {base : Nat} {spare : Nat → Bool} {held : Bool}
theorem five {α : Type} {l : List α} (h : l.length = 5) : ∃ a b c d e, l = [a, b, c, d, e] := by
  match l, h with
  | [a, b, c, d, e], _ => exact ⟨a, b, c, d, e, rfl⟩
theorem act_open {fuel : Nat} {cs : List Value} {x : DataW H × List MemPlace} (h : DataW.trod enc Try.prog W base spare held fuel 38 cs = some x) :
    ∃ (c0 c1 c2 c3 c4 : Value) (y0 y1 y2 y3 y4 : DataW H × List MemPlace) (n : Nat), cs = [c0, c1, c2, c3, c4] ∧ x.1 = .agg [y0.1, y1.1, y2.1, y3.1, y4.1] ∧
      DataW.trod enc Try.prog W base spare held n 3 [c0] = some y0 ∧ DataW.trod enc Try.prog W base spare held n 9 [c1] = some y1 ∧ DataW.trod enc Try.prog W base spare held n 9 [c2] = some y2 ∧ DataW.trod enc Try.prog W base spare held n 3 [c3] = some y3 ∧ DataW.trod enc Try.prog W base spare held n 29 [c4] = some y4 := by
  have k38 : Try.prog.cellsOf 38 = 5 := by kernel_rfl
  have k3 : Try.prog.cellsOf 3 = 1 := by kernel_rfl
  have k9 : Try.prog.cellsOf 9 = 1 := by kernel_rfl
  have k29 : Try.prog.cellsOf 29 = 1 := by kernel_rfl
  obtain ⟨xs, n, _, hx, hlen, hxl, hg⟩ := DataW.trod_struct Try.underlying38 h
  rw [k38] at hlen
  obtain ⟨c0, c1, c2, c3, c4, rfl⟩ := five hlen
  obtain ⟨y0, y1, y2, y3, y4, rfl⟩ := five hxl
  refine ⟨c0, c1, c2, c3, c4, y0, y1, y2, y3, y4, n, rfl, by rw [hx]; rfl, ?_, ?_, ?_, ?_, ?_⟩
  · simpa [k3] using hg 0 _ rfl
  · simpa [k9] using hg 1 _ rfl
  · simpa [k9] using hg 2 _ rfl
  · simpa [k3] using hg 3 _ rfl
  · simpa [k29] using hg 4 _ rfl
theorem ints_open {fuel : Nat} {c : Value} {x : DataW H × List MemPlace} (h : DataW.trod enc Try.prog W base (fun _ => true) held fuel 29 [c] = some x) : ∃ a len cap zs, c = .slice a len cap ∧ RowP W a len cap zs := by
  rcases open_ints Try.underlying29 Try.underlying3 (by kernel_rfl) h with ⟨hcs, _⟩ | ⟨x, l, c, zs, hcs, _, hl, hm, hz, _, hcell, hwz⟩
  · simp at hcs
    exact ⟨none, 0, 0, [], hcs, .inl ⟨rfl, rfl, rfl, rfl⟩⟩
  · simp at hcs
    exact ⟨some x, l, c, zs, hcs, .inr ⟨_, rfl, hl, hm, by simpa using hz, hcell, hwz⟩⟩
theorem weightsAll_mem {P : Program} {e : TypeId} {d : DataW H} {n : Nat} (hn : n ∈ d.weights P e) : ∀ {ds : List (DataW H)}, d ∈ ds → n ∈ DataW.weightsAll P e ds
  | x :: r, h => by
    simp only [DataW.weightsAll, List.mem_append]
    rcases List.mem_cons.1 h with rfl | h
    · exact .inl hn
    · exact .inr (weightsAll_mem hn h)
theorem list_of {α : Type} {P : Nat → α → Prop} : ∀ {n : Nat}, (∀ i, i < n → ∃ x, P i x) → ∃ l : List α, l.length = n ∧ ∀ i (h : i < l.length), P i l[i]
  | 0, _ => ⟨[], rfl, fun i h => absurd h (by simp)⟩
  | n + 1, h => by
    obtain ⟨l, hl, hp⟩ := list_of (n := n) fun i hi => h i (by omega)
    obtain ⟨x, hx⟩ := h n (by omega)
    refine ⟨l ++ [x], by simp [hl], fun i hi => ?_⟩
    by_cases hil : i < l.length
    · rw [List.getElem_append_left hil]; exact hp i hil
    · have : i = n := by simp at hi; omega
      subst this
      rw [List.getElem_append_right (by omega)]
      simpa [hl] using hx
theorem acts_open {v : Value} {d : DataW H} {ps : List MemPlace} {ts : List TypeId} {ds : List (DataW H)} {j : Nat}
    (hsz : (DataW.weightsEach Try.prog ts ds).all (· ≤ reachBytes) = true) (htj : ts[j]? = some 36) (hdj : ds[j]? = some d)
    (hv : Value.okWide Try.prog W .any base 36 v) (h : DataW.Trod enc Try.prog W 0 (fun _ => true) true 36 v d ps) :
    ∃ (A : Option Addr) (acts : List Act5) (c : Nat), v = .slice A acts.length c ∧ ActsAt W A acts ∧ acts.length ≤ c := by
  obtain ⟨A, n, c, rfl⟩ := okWide_slice Try.underlying36 hv
  obtain ⟨fuel, hf⟩ := h
  have k38 : Try.prog.cellsOf 38 = 5 := by kernel_rfl
  rcases open_slice Try.underlying36 hf with ⟨hcs, _⟩ | ⟨x, l, cc, m, n2, D, Pl, hcs, _, hl, hm, hmm, hx, hi⟩
  · simp [Value.cells] at hcs
    obtain ⟨rfl, rfl, rfl⟩ := hcs
    exact ⟨none, [], 0, rfl, ⟨by simp, fun i hi => absurd hi (by simp)⟩, Nat.le_refl _⟩
  · simp [Value.cells] at hcs
    obtain ⟨rfl, rfl, rfl⟩ := hcs
    have hmc : m = c := by simpa using hmm
    subst hmc
    obtain ⟨hxd, _⟩ := Prod.mk.inj hx
    have hall := DataW.weights_mem_each (P := Try.prog) htj hdj
    have hstr : ∀ i, i < n → ∀ b ∈ DataW.weights Try.prog 38 (D i), b ≤ 140737488351232 := fun i hin b hb => by
      have hmem : b ∈ DataW.weights Try.prog 36 d := by
        rw [hxd]
        simp only [DataW.weights, Try.underlying36, List.mem_cons, List.mem_append]
        exact .inr (.inl (weightsAll_mem hb (List.mem_map.2 ⟨i, List.mem_range.2 hin, rfl⟩)))
      have := List.all_eq_true.1 hsz _ (hall b hmem)
      have hr : reachBytes ≤ 140737488351232 := by decide
      have h2 : b ≤ reachBytes := by simpa using this
      omega
    obtain ⟨acts, hal, hacts⟩ := list_of (n := n) (P := fun i (a : Act5) => ActOk W a ∧ x.block < W.heap.size ∧
      W.cell? (x.add (i * 5)) = some (.int .i64 a.kd) ∧ W.cell? (x.add (i * 5 + 1)) = some (.string a.nm) ∧ W.cell? (x.add (i * 5 + 2)) = some (.string a.dt) ∧ W.cell? (x.add (i * 5 + 3)) = some (.int .i64 a.n) ∧ W.cell? (x.add (i * 5 + 4)) = some (.slice a.da a.dl a.dc)) (fun i hin => by
        obtain ⟨cs', hc, ht'⟩ := hi i (by omega)
        rw [k38] at hc
        obtain ⟨c0, c1, c2, c3, c4, y0, y1, y2, y3, y4, n', rfl, hD, t0, t1, t2, t3, t4⟩ := act_open ht'
        obtain ⟨_, _, hat⟩ := World.cells?_some hc
        obtain ⟨kd, e0, _, w0⟩ := DataW.trod_int Try.underlying3 t0
        obtain ⟨nm, e1, f1, w1⟩ := DataW.trod_string Try.underlying9 t1
        obtain ⟨dt, e2, f2, w2⟩ := DataW.trod_string Try.underlying9 t2
        obtain ⟨nn, e3, _, w3⟩ := DataW.trod_int Try.underlying3 t3
        obtain ⟨da, dl, dc, dz, e4, w4⟩ := ints_open t4
        simp only [List.cons.injEq, and_true] at e0 e1 e2 e3
        subst e0 e1 e2 e3 e4
        have hw : ∀ b ∈ DataW.weightsEach Try.prog [3, 9, 9, 3, 29] [y0.1, y1.1, y2.1, y3.1, y4.1], b ≤ 140737488351232 := fun b hb => hstr i hin b (by
          rw [show D i = .agg [y0.1, y1.1, y2.1, y3.1, y4.1] from hD]
          simp only [DataW.weights, Try.underlying38]
          exact hb)
        have hnm : nm.size ≤ 140737488351232 := by
          have := hw nm.data.toList.length (DataW.weights_mem_each (j := 1) rfl rfl _ (by rw [f1]; simp [DataW.weights]))
          rwa [Array.length_toList] at this
        have hdt : dt.size ≤ 140737488351232 := by
          have := hw dt.data.toList.length (DataW.weights_mem_each (j := 2) rfl rfl _ (by rw [f2]; simp [DataW.weights]))
          rwa [Array.length_toList] at this
        have g0 := hat 0 (by decide)
        have g1 := hat 1 (by decide)
        have g2 := hat 2 (by decide)
        have g3 := hat 3 (by decide)
        have g4 := hat 4 (by decide)
        have hblk := World.block_lt_of_cell? W _ g0
        rw [add_block', add_block'] at hblk
        refine ⟨⟨kd, nm, dt, nn, da, dl, dc, dz⟩, ⟨w0, hnm, hdt, w3, w4⟩, hblk, ?_, ?_, ?_, ?_, ?_⟩
        · rw [Dk.add_add] at g0; exact g0
        · rw [Dk.add_add] at g1; exact g1
        · rw [Dk.add_add] at g2; exact g2
        · rw [Dk.add_add] at g3; exact g3
        · rw [Dk.add_add] at g4; exact g4)
    refine ⟨some x, acts, m, by rw [hal], ⟨by omega, fun i hi2 => ?_⟩, by omega⟩
    obtain ⟨ho, hb, h0, h1, h2, h3, h4⟩ := hacts i hi2
    exact ⟨ho, x, rfl, hb, h0, h1, h2, h3, h4⟩
end
theorem twice_row (A : Option Addr) (acts : List Act5) (c : Nat) (a1 : Option Addr) (len1 cap1 : Nat) (z1 : List Int) (a2 : Option Addr) (len2 cap2 : Nat) (z2 : List Int) (W : World) (hA : ActsAt W A acts) (hc : acts.length ≤ c) (h1 : RowP W a1 len1 cap1 z1) (h2 : RowP W a2 len2 cap2 z2) :
    Calls Try.prog 5 #[.slice A acts.length c, .slice a1 len1 cap1, .slice a2 len2 cap2] W fun e W' => e = .returned (.bool true) ∧ Below W.heap.size W W' := by
  obtain ⟨p1, p2, p3, p4, p5⟩ := row_ints h1
  obtain ⟨q1, q2, q3, q4, q5⟩ := row_ints h2
  have := twice_walk A acts c a1 (z1.take len1) cap1 a2 (z2.take len2) cap2 W hA hc ⟨p4, by omega, p3, p5⟩ ⟨q4, by omega, q3, q5⟩
  rw [p1, q1] at this
  exact this
end Go.Proofs.Ytjkllbilfcopmaa.Dk
