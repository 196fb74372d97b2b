import Derived.Test.YtjkllbilfcopmaaDk13
namespace Go.Proofs.Ytjkllbilfcopmaa.Dk
open Go.RowKit Go.Proofs.YtjkllbilfcopmaaW.PrintWords Go.Proofs.YtjkllbilfcopmaaW.PrintLast Go.Proofs.YtjkllbilfcopmaaW.PrintMore
set_option linter.unusedVariables false
set_option linter.unusedSimpArgs false
/-- A slice of numbers that came in. -/
theorem row_ints {W : World} {a : Option Addr} {len cap : Nat} {zs : List Int} (h : (a = none ∧ len = 0 ∧ cap = 0 ∧ zs = []) ∨
    ∃ x, a = some x ∧ len ≤ cap ∧ cap ≤ maxLen ∧ zs.length = cap ∧ (∀ i, i < zs.length → W.cell? (x.add i) = some (.int .i64 (zs.getD i 0))) ∧ ∀ n ∈ zs, (Lit.int .i64 n).wf = true) :
    (zs.take len).length = len ∧ len ≤ cap ∧ cap ≤ maxLen ∧ (∀ S : Nat → Prop, (∀ k, S k → W.heap.size ≤ k) → IntsAt S W a (zs.take len)) ∧ ∀ x ∈ zs.take len, -9223372036854775808 ≤ x ∧ x ≤ 9223372036854775807 := by
  rcases h with ⟨rfl, rfl, rfl, rfl⟩ | ⟨x, rfl, hl, hm, hz, hc, hw⟩
  · exact ⟨rfl, Nat.le_refl _, Nat.zero_le _, fun S _ => none_ints S W, by simp⟩
  · have hlen : (zs.take len).length = len := by rw [List.length_take]; omega
    refine ⟨hlen, hl, hm, fun S hS => ⟨by omega, fun hp => ⟨x, rfl, fun hk => ?_, ?_, fun j hj => ?_⟩⟩, fun n hn => wf_i64 (hw n (List.mem_of_mem_take hn))⟩
    · have h0 := hc 0 (by omega)
      have := World.block_lt_of_cell? W _ h0
      rw [add_block'] at this
      have := hS _ hk
      omega
    · have h0 := hc 0 (by omega)
      have := World.block_lt_of_cell? W _ h0
      rw [add_block'] at this
      exact this
    · rw [hc j (by omega)]
      congr 2
      simp only [List.getD_eq_getElem?_getD]
      rw [List.getElem?_take, if_pos (by omega)]
theorem swap_row (was will : ByteArray) (fz : Int) (a : Option Addr) (len cap : Nat) (zs : List Int) (W : World) (ha : was.size ≤ 140737488351232) (hb : will.size ≤ 140737488351232) (hx : (Lit.int .i64 fz).wf = true)
    (h : (a = none ∧ len = 0 ∧ cap = 0 ∧ zs = []) ∨ ∃ x, a = some x ∧ len ≤ cap ∧ cap ≤ maxLen ∧ zs.length = cap ∧ (∀ i, i < zs.length → W.cell? (x.add i) = some (.int .i64 (zs.getD i 0))) ∧ ∀ n ∈ zs, (Lit.int .i64 n).wf = true) :
    Calls Try.prog 6 #[.string was, .string will, .agg #[.int .i64 fz, .slice a len cap]] W fun e W' => e = .returned (.bool true) ∧ Below W.heap.size W W' := by
  obtain ⟨h1, h2, h3, h4, h5⟩ := row_ints h
  have := swap_walk was will fz a (zs.take len) cap W ha hb hx h4 (by omega) h3 h5
  rw [h1] at this
  exact this
end Go.Proofs.Ytjkllbilfcopmaa.Dk
