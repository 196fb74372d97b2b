import Derived.Test.YtdnmllodefbekaaDoorAu3
namespace Go.Proofs.YtdnmllodefbekaaDoor.Au
open Go.RowKit Go.Lib Go.Shelf Go.Proofs.YtdnmllodefbekaaDoor.Sha Go.Proofs.YtdnmllodefbekaaDoorW.PrintWords Go.Proofs.YtdnmllodefbekaaDoorW.PrintLast Go.Proofs.YtdnmllodefbekaaDoorW.PrintMore
set_option linter.unusedVariables false
set_option linter.unusedSimpArgs false
set_option maxRecDepth 100000 in
set_option maxHeartbeats 1000000 in
theorem take_walk (W : World) (g b : Nat) (m : Ks) (h : IsAu W g b m) (s : ByteArray) (hs : s.size ≤ maxLen) : Calls Tryd.prog 31 #[.pointer (some ⟨g, 0, none⟩), .string s] W fun e W' => e = .returned (.int .i64 (take m s).2) ∧ IsAu W' g b (take m s).1 ∧ Fr (Only b) W W' := by
  have HI := Aside0.mk h
  have c0 := (blk_cell h.blk 0).trans (show _ = some (Value.map (some b)) from rfl)
  clear h
  cases hT : there m s with
  | false =>
    have HT := Aside0.mk (show (FM.get m s.data.toList).isSome = false from hT)
    rw [show take m s = (m, 5) from by unfold take; rw [hT]; rfl]
    clear hT
    go_enter Tryd.func31, Tryd.ntmps31
    go_wp2_with (first | (at_lookup; refine step_look rfl _ _ rfl b m rfl HI.out.own s rfl hs ?_; rw [HT.out]))
    go_ret
    exact ⟨rfl, HI.out, Fr.refl _ _⟩
  | true =>
    have HT := Aside0.mk (show (FM.get m s.data.toList).isSome = true from hT)
    rw [show take m s = (FM.del m s.data.toList, 0) from by unfold take; rw [hT]; rfl]
    clear hT
    go_enter Tryd.func31, Tryd.ntmps31
    go_wp2_with (first | (at_lookup; refine step_look rfl _ _ rfl b m rfl HI.out.own s rfl hs ?_; rw [HT.out]) | (refine step_del rfl _ _ rfl b m rfl HI.out.own s rfl hs ?_; intro W1 ho hg; have HD := Aside0.mk (And.intro (HI.out.del ho hg) ((Fr.refl (Only b) W).grown hg rfl)); clear ho hg))
    go_ret
    exact ⟨rfl, HD.out⟩
set_option maxRecDepth 100000 in
set_option maxHeartbeats 1000000 in
theorem check_walk (W : World) (g b : Nat) (m : Ks) (h : IsAu W g b m) (hL : Laid W) (h2 : 2 ≤ W.heap.size) (s c p : ByteArray) (hs : s.size ≤ 400000000) (hc : c.size ≤ 400000000) (hp : p.size ≤ 140737488351232) : Calls Tryd.prog 30 #[.pointer (some ⟨g, 0, none⟩), .string s, .string c, .string p] W fun e W' => e = .returned (.int .i64 (check m s c p)) ∧ Below W.heap.size W W' := by
  have HI := Aside0.mk h
  have HL := Aside0.mk hL
  have c0 := (blk_cell h.blk 0).trans (show _ = some (Value.map (some b)) from rfl)
  have hks := keyAt_size h.fine s
  unfold check
  obtain ⟨K, hK⟩ : ∃ K, keyAt m s = K := ⟨_, rfl⟩
  obtain ⟨T, hT⟩ : ∃ T, there m s = T := ⟨_, rfl⟩
  obtain ⟨P, hP⟩ : ∃ P, proofS K s c = P := ⟨_, rfl⟩
  rw [hK] at hks ⊢
  rw [hT, hP]
  have HK := Aside0.mk (show (FM.get m s.data.toList).getD ⟨#[]⟩ = K from hK)
  have HT := Aside0.mk (show (FM.get m s.data.toList).isSome = T from hT)
  have HP := Aside0.mk hP
  clear h hL hK hT hP
  by_cases q : p = P
  · rw [if_pos q]
    have HD := Aside0.mk (show decide (p = P) = true from decide_eq_true q)
    clear q
    cases T with
    | true =>
      rw [if_pos rfl]
      go_enter Tryd.func30, Tryd.ntmps30
      go_wp2_with (first | (at_lookup; refine step_look rfl _ _ rfl b m rfl HI.out.own s rfl (by unfold maxLen; omega) ?_; rw [HT.out, HK.out]))
      refine (proof_walk K s c _ HL.out h2 (by omega) hs hc).mono ?_
      rw [HP.out]
      rintro e w1 ⟨rfl, hB1⟩
      have HB1 := Aside0.mk hB1
      clear hB1
      go_wp2_with fail
      refine (equal_walk p P _ hp).mono ?_
      rw [HD.out]
      rintro e w2 ⟨rfl, hD⟩
      have HB2 := Aside0.mk (below_step HB1.out (hD.below))
      clear hD
      go_wp2
      go_ret
      exact ⟨rfl, HB2.out⟩
    | false =>
      rw [if_neg (by decide)]
      go_enter Tryd.func30, Tryd.ntmps30
      go_wp2_with (first | (at_lookup; refine step_look rfl _ _ rfl b m rfl HI.out.own s rfl (by unfold maxLen; omega) ?_; rw [HT.out, HK.out]))
      refine (proof_walk K s c _ HL.out h2 (by omega) hs hc).mono ?_
      rw [HP.out]
      rintro e w1 ⟨rfl, hB1⟩
      have HB1 := Aside0.mk hB1
      clear hB1
      go_wp2_with fail
      refine (equal_walk p P _ hp).mono ?_
      rw [HD.out]
      rintro e w2 ⟨rfl, hD⟩
      have HB2 := Aside0.mk (below_step HB1.out (hD.below))
      clear hD
      go_wp2
      go_ret
      exact ⟨rfl, HB2.out⟩
  · rw [if_neg q]
    have HD := Aside0.mk (show decide (p = P) = false from decide_eq_false q)
    clear q
    go_enter Tryd.func30, Tryd.ntmps30
    go_wp2_with (first | (at_lookup; refine step_look rfl _ _ rfl b m rfl HI.out.own s rfl (by unfold maxLen; omega) ?_; rw [HT.out, HK.out]))
    refine (proof_walk K s c _ HL.out h2 (by omega) hs hc).mono ?_
    rw [HP.out]
    rintro e w1 ⟨rfl, hB1⟩
    have HB1 := Aside0.mk hB1
    clear hB1
    go_wp2_with fail
    refine (equal_walk p P _ hp).mono ?_
    rw [HD.out]
    rintro e w2 ⟨rfl, hD⟩
    have HB2 := Aside0.mk (below_step HB1.out (hD.below))
    clear hD
    go_wp2
    go_ret
    exact ⟨rfl, HB2.out⟩
end Go.Proofs.YtdnmllodefbekaaDoor.Au
