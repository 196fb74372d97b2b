import Derived.Test.YtdnmllodefbekaaDoorAu4
namespace Go.Proofs.YtdnmllodefbekaaDoor.Au
open Go.RowKit Go.Lib Go.Shelf Go.Proofs.YtdnmllodefbekaaDoor.Sha Go.Proofs.YtdnmllodefbekaaDoorW.PrintWords Go.Proofs.YtdnmllodefbekaaDoorW.PrintLast Go.Proofs.YtdnmllodefbekaaDoorW.PrintMore
set_option linter.unusedVariables false
set_option linter.unusedSimpArgs false
set_option maxRecDepth 100000 in
set_option maxHeartbeats 2000000 in
theorem put_walk (W : World) (g b : Nat) (m : Ks) (h : IsAu W g b m) (s k : ByteArray) (hs : s.size ≤ maxLen) : Calls Tryd.prog 27 #[.pointer (some ⟨g, 0, none⟩), .string s, .string k] W fun e W' => e = .returned (.int .i64 (put m s k).2) ∧ IsAu W' g b (put m s k).1 ∧ Fr (Only b) W W' := by
  have HI := Aside0.mk h
  have hml : m.length ≤ 1000000 := by have := h.len; omega
  clear h
  cases hN : nameOk s with
  | false =>
    have HN := Aside0.mk hN
    rw [show put m s k = (m, 10) from by unfold put; rw [hN]; rfl]
    clear hN
    go_enter Tryd.func27, Tryd.ntmps27
    go_wp2_with fail
    refine (may_walk s _ hs).mono ?_
    rw [HN.out]
    rintro e w1 ⟨rfl, hB1⟩
    have HI1 := Aside0.mk (HI.out.below hB1)
    have HF1 := Aside0.mk (Fr.of_below (S := Only b) hB1)
    have c1 := (blk_cell HI1.out.blk 0).trans (show _ = some (Value.map (some b)) from rfl)
    clear hB1
    go_wp2_with fail
    go_ret
    exact ⟨rfl, HI1.out, HF1.out⟩
  | true =>
    have HN := Aside0.mk hN
    by_cases q0 : k.size = 0
    · rw [show put m s k = (m, 2) from by unfold put; rw [hN, if_neg (by decide), if_pos (.inl q0)]]
      obtain rfl : k = ⟨#[]⟩ := ByteArray.ext (Array.eq_empty_of_size_eq_zero q0)
      clear hN q0
      obtain ⟨u, hu⟩ : ∃ u, FM.get m s.data.toList = u := ⟨_, rfl⟩
      have HT := Aside0.mk hu
      clear hu
      go_enter Tryd.func27, Tryd.ntmps27
      go_wp2_with fail
      refine (may_walk s _ hs).mono ?_
      rw [HN.out]
      rintro e w1 ⟨rfl, hB1⟩
      have HI1 := Aside0.mk (HI.out.below hB1)
      have HF1 := Aside0.mk (Fr.of_below (S := Only b) hB1)
      have c1 := (blk_cell HI1.out.blk 0).trans (show _ = some (Value.map (some b)) from rfl)
      clear hB1
      go_wp2_with (first | (at_lookup; refine step_look rfl _ _ rfl b m rfl HI1.out.own s rfl hs ?_; rw [HT.out]))
      go_ret
      exact ⟨rfl, HI1.out, HF1.out⟩
    · have k0 : k.toList.isEmpty = false := by
        rw [ByteArray.toList_eq]
        have : k.data.toList ≠ [] := fun e => q0 (by have := congrArg List.length e; simpa using this)
        simpa using this
      have k0' : k.toList ≠ [] := by simpa using k0
      by_cases q1 : 64 < k.size
      · rw [show put m s k = (m, 2) from by unfold put; rw [hN, if_neg (by decide), if_pos (.inr q1)]]
        have q1' : (64 : Int) < (k.size : Int) := by omega
        obtain ⟨u, hu⟩ : ∃ u, FM.get m s.data.toList = u := ⟨_, rfl⟩
        have HT := Aside0.mk hu
        clear hu hN q0 q1
        go_enter Tryd.func27, Tryd.ntmps27
        go_wp2_with fail
        refine (may_walk s _ hs).mono ?_
        rw [HN.out]
        rintro e w1 ⟨rfl, hB1⟩
        have HI1 := Aside0.mk (HI.out.below hB1)
        have HF1 := Aside0.mk (Fr.of_below (S := Only b) hB1)
        have c1 := (blk_cell HI1.out.blk 0).trans (show _ = some (Value.map (some b)) from rfl)
        clear hB1
        go_wp2_with (first | (at_lookup; refine step_look rfl _ _ rfl b m rfl HI1.out.own s rfl hs ?_; rw [HT.out]))
        go_ret
        exact ⟨rfl, HI1.out, HF1.out⟩
      · have q1' : (k.size : Int) ≤ 64 := by omega
        have HK := Aside0.mk (show k.size ≤ 64 by omega)
        have hE : put m s k = if there m s = false ∧ 4096 ≤ m.length then (m, 2) else (FM.put m s.data.toList k, 0) := by unfold put; rw [hN, if_neg (by decide), if_neg (by omega)]
        cases hu : FM.get m s.data.toList with
        | some u =>
          have ht : there m s = true := by unfold there; rw [hu]; rfl
          rw [if_neg (by rw [ht]; simp)] at hE
          rw [hE]
          have HT := Aside0.mk hu
          have HM := Aside0.mk (show there m s = true ∨ m.length < 4096 from .inl ht)
          clear hu ht hE hN q0 q1
          go_enter Tryd.func27, Tryd.ntmps27
          go_wp2_with fail
          refine (may_walk s _ hs).mono ?_
          rw [HN.out]
          rintro e w1 ⟨rfl, hB1⟩
          have HI1 := Aside0.mk (HI.out.below hB1)
          have HF1 := Aside0.mk (Fr.of_below (S := Only b) hB1)
          have c1 := (blk_cell HI1.out.blk 0).trans (show _ = some (Value.map (some b)) from rfl)
          clear hB1
          go_wp2_with (first | (at_lookup; refine step_look rfl _ _ rfl b m rfl HI1.out.own s rfl hs ?_; rw [HT.out]) | (refine step_put rfl _ _ _ rfl b m rfl HI1.out.own hml s k rfl rfl hs ?_; intro W1 ho hg; have HD := Aside0.mk (And.intro (HI1.out.put ho hg HK.out HM.out) (HF1.out.grown hg rfl)); clear ho hg))
          go_ret
          exact ⟨rfl, HD.out⟩
        | none =>
          have ht : there m s = false := by unfold there; rw [hu]; rfl
          have HT := Aside0.mk hu
          by_cases hm : 4096 ≤ m.length
          · rw [if_pos ⟨ht, hm⟩] at hE
            rw [hE]
            have hm' : (4096 : Int) ≤ (m.length : Int) := by omega
            clear hu ht hE hN q0 q1 hm
            go_enter Tryd.func27, Tryd.ntmps27
            go_wp2_with fail
            refine (may_walk s _ hs).mono ?_
            rw [HN.out]
            rintro e w1 ⟨rfl, hB1⟩
            have HI1 := Aside0.mk (HI.out.below hB1)
            have HF1 := Aside0.mk (Fr.of_below (S := Only b) hB1)
            have c1 := (blk_cell HI1.out.blk 0).trans (show _ = some (Value.map (some b)) from rfl)
            have hlen := HI1.out.own.len Tryd.underlying61 3
            rw [FM.toD_size] at hlen
            clear hB1
            go_wp2_with (first | (at_lookup; refine step_look rfl _ _ rfl b m rfl HI1.out.own s rfl hs ?_; rw [HT.out]))
            go_ret
            exact ⟨rfl, HI1.out, HF1.out⟩
          · rw [if_neg (by omega)] at hE
            rw [hE]
            have HM := Aside0.mk (show there m s = true ∨ m.length < 4096 from .inr (by omega))
            have hm' : (m.length : Int) < 4096 := by omega
            clear hu ht hE hN q0 q1 hm
            go_enter Tryd.func27, Tryd.ntmps27
            go_wp2_with fail
            refine (may_walk s _ hs).mono ?_
            rw [HN.out]
            rintro e w1 ⟨rfl, hB1⟩
            have HI1 := Aside0.mk (HI.out.below hB1)
            have HF1 := Aside0.mk (Fr.of_below (S := Only b) hB1)
            have c1 := (blk_cell HI1.out.blk 0).trans (show _ = some (Value.map (some b)) from rfl)
            have hlen := HI1.out.own.len Tryd.underlying61 3
            rw [FM.toD_size] at hlen
            clear hB1
            go_wp2_with (first | (at_lookup; refine step_look rfl _ _ rfl b m rfl HI1.out.own s rfl hs ?_; rw [HT.out]) | (refine step_put rfl _ _ _ rfl b m rfl HI1.out.own hml s k rfl rfl hs ?_; intro W1 ho hg; have HD := Aside0.mk (And.intro (HI1.out.put ho hg HK.out HM.out) (HF1.out.grown hg rfl)); clear ho hg))
            go_ret
            exact ⟨rfl, HD.out⟩
end Go.Proofs.YtdnmllodefbekaaDoor.Au
