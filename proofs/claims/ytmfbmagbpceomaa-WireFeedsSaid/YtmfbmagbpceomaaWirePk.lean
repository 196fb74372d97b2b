import Derived.Test.YtmfbmagbpceomaaWireBad2
namespace Go.Proofs.Ytmfbmagbpceomaa.Wire
open Go.RowKit Go.Proofs.YtmfbmagbpceomaaW.PrintWords Go.Proofs.YtmfbmagbpceomaaW.PrintLast Go.Proofs.YtmfbmagbpceomaaW.PrintMore
set_option linter.unusedVariables false
set_option linter.unusedSimpArgs false
theorem of_calls (a0 : ByteArray) (w : World) (h : a0.size ≤ 65536) :
    Calls Try.prog 49 #[.string a0] w fun e w' => e = .returned (.string (strOfNums (hd4 a0.size) ++ a0)) ∧ Below w.heap.size w w' := by
  have h' : (a0.size : Int) ≤ 65536 := by omega
  have hz : a0.size ≤ 65536 := h
  obtain ⟨y, hy⟩ : ∃ y : List Int, y = ([(a0.size : Int) / 16777216, (a0.size : Int) / 65536 % 256, (a0.size : Int) / 256 % 256, (a0.size : Int) % 256] : List Int) := ⟨_, rfl⟩
  have Ny := Aside0.mk hy
  obtain ⟨S4, hS4⟩ : ∃ S4, strOfNums y = S4 := ⟨_, rfl⟩
  have NS := Aside0.mk hS4
  have hz4 : S4.size = 4 := by rw [← hS4, strOfNums_size, hy]; rfl
  have hz4' : S4.size ≤ 4 := by omega
  rw [← hd4_u32 a0.size (by omega), ← hy, hS4]
  clear hy hS4 hz4 h
  go_enter Try.func49, Try.ntmps49
  go_wp2_with (first | ((with_reducible refine gate_dst (N := 20) rfl ?_); refine Kd.R_lit (Kd.int .u8) _ 5 ?hg (N := 20) ?hd (xs := ([(a0.size : Int) / 16777216, (a0.size : Int) / 65536 % 256, (a0.size : Int) / 256 % 256, (a0.size : Int) % 256] : List Int)) (inner := [.int .u8 ((a0.size : Int) / 16777216), .int .u8 ((a0.size : Int) / 65536 % 256), .int .u8 ((a0.size : Int) / 256 % 256), .int .u8 ((a0.size : Int) % 256)]) (ok := fun _ => True) (okp := fun _ => True) ?hr ?hp (fun _ hk => hk) trivial (Below.refl _ _) (Nat.le_refl _) (by simp) ?_; (case hd => rfl); (case hg => rfl); (case hr => first | (go_simp; done) | (go_simp; rfl)); (case hp => exact (Reps.one (show Kd.M (Kd.int .u8) _ _ _ ((a0.size : Int) / 16777216) [.int .u8 ((a0.size : Int) / 16777216)] from rfl) (Reps.one (show Kd.M (Kd.int .u8) _ _ _ ((a0.size : Int) / 65536 % 256) [.int .u8 ((a0.size : Int) / 65536 % 256)] from rfl) (Reps.one (show Kd.M (Kd.int .u8) _ _ _ ((a0.size : Int) / 256 % 256) [.int .u8 ((a0.size : Int) / 256 % 256)] from rfl) (Reps.one (show Kd.M (Kd.int .u8) _ _ _ ((a0.size : Int) % 256) [.int .u8 ((a0.size : Int) % 256)] from rfl) (Reps.none _ _)))))); intro v20 w4 ho5 hb5 hg_ hnew_; clear hg_ hnew_; (first | rw [← Ny.out] at ho5 | (simp only [Int.reduceToNat] at ho5; rw [← Ny.out] at ho5)); have HB4 := Aside0.mk hb5; have hcv6 := own_string (P := Try.prog) Try.underlying23 Try.underlying5 Try.underlying9 (Kd.own_of_R ho5); rw [NS.out] at hcv6; clear hb5 ho5))
  go_ret
  exact ⟨rfl, HB4.out⟩
/-- Both Packets answer alike. -/
theorem packets_calls (s : ByteArray) : ∃ (p : ByteArray) (e : Int), (∀ w, Calls Try.prog 37 #[.string s] w fun en w' => en = .returned (.tuple #[.string p, .int .i64 e]) ∧ Below w.heap.size w w') ∧
    ∀ w, Calls Try.prog 38 #[.string s] w fun en w' => en = .returned (.tuple #[.string p, .int .i64 e]) ∧ Below w.heap.size w w' := by
  by_cases h : s.size ≤ 65536
  · refine ⟨_, _, fun w => packet_calls s h w, fun w => ?_⟩
    have h' : ¬ (65536 : Int) < (s.size : Int) := by omega
    go_enter Try.func38, Try.ntmps38
    go_wp2_with fail
    refine (of_calls s _ h).mono ?_
    rintro e w1 ⟨rfl, hb⟩
    have HB := Aside0.mk hb
    clear hb
    go_wp2
    go_ret2
    exact ⟨rfl, HB.out⟩
  · refine ⟨⟨#[]⟩, 2, fun w => PWireBad.wire_Packet.calls s _ _ w ?_, fun w => ?_⟩
    · unfold PWireBad.wire_Packet.f
      rw [if_pos (by omega)]
    · have h' : (65536 : Int) < (s.size : Int) := by omega
      go_enter Try.func38, Try.ntmps38
      go_wp2
      go_ret2
      exact ⟨rfl, Below.refl _ _⟩
end Go.Proofs.Ytmfbmagbpceomaa.Wire
