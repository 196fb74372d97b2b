import Derived.Test.YtdnmllodefbekaaDoorSha10
namespace Go.Proofs.YtdnmllodefbekaaDoor.Sha
open Go.RowKit Go.Lib Go.Proofs.YtdnmllodefbekaaDoorW.PrintWords Go.Proofs.YtdnmllodefbekaaDoorW.PrintLast Go.Proofs.YtdnmllodefbekaaDoorW.PrintMore
set_option linter.unusedVariables false
set_option linter.unusedSimpArgs false
/-- A long key counts as its digest. -/
theorem mac_long (key b : List Int) (h : 64 < key.length) : macL (shaL key) b = macL key b := by
  unfold macL keyL
  rw [if_pos h, if_neg (by rw [shaL_len]; omega)]
/-- Noughts behind a short key change nothing. -/
theorem mac_noughts (key b : List Int) (n : Nat) (h : key.length + n ≤ 64) : macL (key ++ List.replicate n 0) b = macL key b := by
  unfold macL keyL
  have h1 : ¬ 64 < (key ++ List.replicate n (0 : Int)).length := by simp; omega
  have h2 : ¬ 64 < key.length := by omega
  simp only [if_neg h1, if_neg h2]
  have e : ∀ y, padL (key ++ List.replicate n 0) y = padL key y := fun y => by
    unfold padL
    rw [List.length_append, List.length_replicate, List.append_assoc, List.replicate_append_replicate, show n + (64 - (key.length + n)) = 64 - key.length by omega]
  rw [e, e]
set_option maxRecDepth 100000 in
set_option maxHeartbeats 8000000 in
theorem keys_walk (key b : ByteArray) (n : Int) (w : World) (hL : Laid w) (h2 : 2 ≤ w.heap.size) :
    Calls Tryd.prog 5 #[.string key, .string b, .int .i64 n] w fun e w' => e = .returned (.bool true) ∧ Below w.heap.size w w' := by
  have HL := Aside0.mk hL
  clear hL
  go_enter Tryd.func5, Tryd.ntmps5
  go_wp2_with fail
  refine (works_walk _ HL.out h2).mono ?_
  rintro e w1 ⟨rfl, hB1⟩
  have HB1 := Aside0.mk hB1
  clear hB1
  by_cases q1 : 20000 < key.size
  · go_wp2
    go_ret
    exact ⟨rfl, HB1.out⟩
  · by_cases q2 : 20000 < b.size
    · go_wp2
      go_ret
      exact ⟨rfl, HB1.out⟩
    · by_cases q3 : 64 < key.size
      · go_wp2_with fail
        refine (mac_walk key b _ (HL.out.step HB1.out h2) (Nat.le_trans h2 HB1.out.size) (by omega) (by omega)).mono ?_
        rintro e w2 ⟨rfl, hB2⟩
        have HB2 := Aside0.mk (below_step HB1.out hB2)
        clear hB2
        go_wp2_with fail
        refine (sha_walk key _ (HL.out.step HB2.out h2) (Nat.le_trans h2 HB2.out.size) (by omega)).mono ?_
        rintro e w3 ⟨rfl, hB3⟩
        have HB3 := Aside0.mk (below_step HB2.out hB3)
        clear hB3
        go_wp2_with fail
        refine (mac_walk _ b _ (HL.out.step HB3.out h2) (Nat.le_trans h2 HB3.out.size) (by rw [strOfNums_size', shaL_len]; omega) (by omega)).mono ?_
        rw [bytesOf_shaL, mac_long _ _ (by rw [bytesOf_length]; exact q3)]
        rintro e w4 ⟨rfl, hB4⟩
        have HB4 := Aside0.mk (below_step HB3.out hB4)
        clear hB4
        go_wp2
        go_ret
        exact ⟨rfl, HB4.out⟩
      · obtain ⟨m, hm, hmk⟩ : ∃ m : Nat, wrap64 ((IntKind.u64.wrap n).tmod (65 - (key.size : Int))) = (m : Int) ∧ key.size + m ≤ 64 := by
          have hu : 0 ≤ IntKind.u64.wrap n := by rw [IntKind.wrap_u64]; omega
          have h1 := Int.emod_nonneg (IntKind.u64.wrap n) (show (65 - (key.size : Int)) ≠ 0 by omega)
          have h2 := Int.emod_lt_of_pos (IntKind.u64.wrap n) (show 0 < 65 - (key.size : Int) by omega)
          rw [Int.tmod_eq_emod_of_nonneg hu]
          refine ⟨(IntKind.u64.wrap n % (65 - (key.size : Int))).toNat, ?_, by omega⟩
          unfold wrap64; omega
        have hm0 : m ≤ 64 := by omega
        have hz : ¬ 9223372036854775807 < key.size + (strOfNums (List.replicate m (0 : Int))).size := by rw [strOfNums_size', List.length_replicate]; omega
        go_wp2_with (first | ((with_reducible refine gate_dst (N := 38) rfl ?_); refine Kd.R_make (Kd.int .u8) (w0 := w1) w1.heap.size 5 rfl (N := 38) rfl 32 _ _ rfl (wrap64 ((IntKind.u64.wrap n).tmod (65 - (key.size : Int)))) rfl rfl Tryd.underlying32 (.int .u8 0) 1 info5 rfl (by decide) (by omega) 0 (ok := fun _ => True) (okp := fun _ => True) rfl (fun _ hk => hk) trivial (by rw [hm]; omega) (by rw [hm]; omega) (Below.refl _ _) (Nat.le_refl _) ?_; intro v38 w2 hr2 hb2 hg2 hn2; rw [hm, Int.toNat_natCast] at hr2; obtain ⟨A2, c2, rfl⟩ := Kd.R_slice hr2; rw [List.length_replicate] at hr2 ⊢; have hcv := own_string (P := Tryd.prog) Tryd.underlying32 Tryd.underlying5 Tryd.underlying9 (Kd.own_of_R hr2); have HB2 := Aside0.mk (below_step HB1.out hb2); clear hr2 hb2 hg2 hn2))
        refine (mac_walk key b _ (HL.out.step HB2.out h2) (Nat.le_trans h2 HB2.out.size) (by omega) (by omega)).mono ?_
        rintro e w3 ⟨rfl, hB3⟩
        have HB3 := Aside0.mk (below_step HB2.out hB3)
        clear hB3
        go_wp2_with fail
        refine (mac_walk _ b _ (HL.out.step HB3.out h2) (Nat.le_trans h2 HB3.out.size) (by rw [ByteArray.size_append, strOfNums_size', List.length_replicate]; omega) (by omega)).mono ?_
        rw [bytesOf_append, bytesOf_strOfNums _ (fun x hx => by rw [List.eq_of_mem_replicate hx]; omega), mac_noughts _ _ _ (by rw [bytesOf_length]; exact hmk)]
        rintro e w4 ⟨rfl, hB4⟩
        have HB4 := Aside0.mk (below_step HB3.out hB4)
        clear hB4
        go_wp2
        go_ret
        exact ⟨rfl, HB4.out⟩
end Go.Proofs.YtdnmllodefbekaaDoor.Sha
