import Derived.Test.YtdnmllodefbekaaDoorAu14
import Derived.WalkLawsBesides
namespace Go.Proofs.YtdnmllodefbekaaDoor.Au
open Go.RowKit Go.Lib Go.Maps Go.Sort Go.Shelf Go.Proofs.YtdnmllodefbekaaDoor.Sha Go.Proofs.YtdnmllodefbekaaDoorW.PrintWords Go.Proofs.YtdnmllodefbekaaDoorW.PrintLast Go.Proofs.YtdnmllodefbekaaDoorW.PrintMore
set_option linter.unusedVariables false
set_option linter.unusedSimpArgs false
/-- What stands through the second loop. -/
structure N3 (w W : World) (g b lb : Nat) (m : Ks) (j : Nat) (R : Option Addr) : Prop where
  au : IsAu W g b (rest m j)
  last : Own W lb m
  row : StrsAt (Only b) W R (nameL m)
  below : Below w.heap.size w W
theorem N3.step {w W W1 : World} {g b lb : Nat} {m : Ks} {j : Nat} {R : Option Addr} (h : N3 w W g b lb m j R) (hB : Go.RowKit.Below W.heap.size W W1) : N3 w W1 g b lb m j R :=
  ⟨h.au.below hB, own_move h.last (hB.block lb h.last.lt), h.row.fr (Fr.of_below hB), below_step h.below hB⟩
/-- What stands through the first loop. -/
structure NL (w W : World) (g b lb : Nat) (m : Ks) : Prop where
  au : IsAu W g b m
  last : Own W lb m
  nd : Nd m
  sm : ∀ p ∈ m, p.1.length ≤ 100
  below : Below w.heap.size w W
theorem put_sm {m : Ks} (h : ∀ p ∈ m, p.1.length ≤ 100) (x y : ByteArray) (hx : x.size ≤ 100) : ∀ p ∈ FM.put m x.data.toList y, p.1.length ≤ 100 := fun p hp => by
  rcases FM.mem_put.1 hp with rfl | ⟨hp, -⟩
  · show x.data.toList.length ≤ 100
    rw [Array.length_toList]
    exact hx
  · exact h p hp
structure NL2 (w W : World) (g b lb : Nat) (m m1 : Ks) : Prop where
  au : IsAu W g b m1
  last : Own W lb m
  nd : Nd m
  sm : ∀ p ∈ m, p.1.length ≤ 100
  below : Below w.heap.size w W
set_option maxRecDepth 100000 in
set_option maxHeartbeats 4000000 in
theorem names_law (A : Option Addr) (l : List ByteArray) (c : Nat) (A2 : Option Addr) (l2 : List ByteArray) (c2 : Nat) (w : World) (h : Kd.C Kd.string w A l.length l) (hc : l.length ≤ c) (h' : Kd.C Kd.string w A2 l2.length l2) (hc' : l2.length ≤ c2) (hL : Laid w) (h2 : 2 ≤ w.heap.size) :
    Calls Tryd.prog 11 #[.slice A l.length c, .slice A2 l2.length c2] w fun e w' => e = .returned (.bool true) ∧ Below w.heap.size w w' := by
  have hmm := @run_makeMap Tryd.prog
  have HC := Aside0.mk h
  have HC2 := Aside0.mk h'
  have HL := Aside0.mk hL
  clear h h' hL
  go_enter Tryd.func11, Tryd.ntmps11
  go_wp2_with fail
  refine (new_walk w).mono ?_
  rintro e w1 ⟨rfl, hI1, hB1⟩
  have HI1 := Aside0.mk hI1
  have HB1 := Aside0.mk hB1
  clear hI1 hB1
  obtain ⟨s, hs⟩ : ∃ s, w.heap.size = s := ⟨_, rfl⟩
  have hsw : w.heap.size ≤ s := Nat.le_of_eq hs
  have HBs : Aside0 (∀ W, Below w.heap.size w W → Below s w W) := ⟨fun W h => hs ▸ h⟩
  rw [hs] at HI1 ⊢
  go_wp2_with fail
  refine (works_walk _ (HL.out.step HB1.out h2) (Nat.le_trans h2 HB1.out.size)).mono ?_
  rintro e w2 ⟨rfl, hB2⟩
  have HB2 := Aside0.mk (below_step HB1.out hB2)
  have HI2 := Aside0.mk (HI1.out.below hB2)
  clear hB2
  go_wp2_with fail
  obtain ⟨lb, hlb⟩ : ∃ lb, w2.heap.size = lb := ⟨_, rfl⟩
  have hl1 := HI2.out.lt
  have hN0 : NL w (w2.alloc (.map #[] 0)) (s + 1) s lb [] := ⟨HI2.out.below (below_alloc (Below.refl _ _) _), by rw [← hlb]; exact World.ownsMap_made w2 Tryd.prog 9 strR, nd_nil, fun p hp => (by cases hp), below_alloc HB2.out _⟩
  rw [hlb] at hl1 ⊢
  have HN0 := Aside0.mk hN0
  have hlw : w.heap.size ≤ lb := by omega
  clear hN0 hlb hmm
  generalize (w2.alloc (.map #[] 0)) = w3 at *
  go_loopg [7] 13 (fun kq v7 w' => ∃ (i : Nat) (m : Ks), v7 = .int .i64 (i : Int) ∧ Aside0 (i + kq = 13 ∧ i ≤ 12) ∧ Aside0 (NL w w' (s + 1) s lb m))
  case atStart => exact ⟨0, [], rfl, ⟨rfl, Nat.zero_le _⟩, HN0⟩
  case round =>
    obtain ⟨i, m, rfl, HI, HN⟩ := hrel
    clear HN0
    by_cases q : i < l.length ∧ i < l2.length ∧ i < 12
    · obtain ⟨q1, q2, q3⟩ := q
      obtain ⟨kq1, rfl⟩ : ∃ kq1, gk = kq1 + 1 := ⟨gk - 1, by have := HI.out; omega⟩
      obtain ⟨ad, rfl, hx⟩ := Kd.at_string (Kd.C_below HC.out HN.out.below) (i : Int) (by omega) (by omega)
      obtain ⟨ad2, rfl, hx2⟩ := Kd.at_string (Kd.C_below HC2.out HN.out.below) (i : Int) (by omega) (by omega)
      obtain ⟨x, hxe⟩ : ∃ x, rdOf ByteArray.empty l (i : Int) = x := ⟨_, rfl⟩
      obtain ⟨y, hye⟩ : ∃ y, rdOf ByteArray.empty l2 (i : Int) = y := ⟨_, rfl⟩
      rw [hxe] at hx
      rw [hye] at hx2
      have q1' : (i : Int) < (l.length : Int) := by omega
      have q2' : (i : Int) < (l2.length : Int) := by omega
      have q3' : (i : Int) < 12 := by omega
      have HXE := Aside0.mk hxe
      have HYE := Aside0.mk hye
      have HQ := Aside0.mk (And.intro q1 (And.intro q2 q3))
      clear q1 q2 q3 hxe hye
      simp only [Int.toNat_natCast] at hx hx2
      by_cases hb1 : 100 < x.size
      · have hb1' : (100 : Int) < (x.size : Int) := by omega
        go_wp2
        go_ret
        first | exact ⟨rfl, HN.out.below⟩ | exact ⟨rfl, HBs.out _ HN.out.below⟩
      · have hb1' : ¬ (100 : Int) < (x.size : Int) := by omega
        by_cases hb2 : 100 < y.size
        · have hb2' : (100 : Int) < (y.size : Int) := by omega
          go_wp2
          go_ret
          first | exact ⟨rfl, HN.out.below⟩ | exact ⟨rfl, HBs.out _ HN.out.below⟩
        · have hb2' : ¬ (100 : Int) < (y.size : Int) := by omega
          have hmx : x.size ≤ maxLen := by unfold maxLen; omega
          go_wp2_with fail
          have hx4 : ({ wr with drawn := wr.drawn + 1 } : World).cell? (ad.add i) = some (.string x) := hx
          have hy4 : ({ wr with drawn := wr.drawn + 1 } : World).cell? (ad2.add i) = some (.string y) := hx2
          have HN4 := Aside0.mk (show NL w { wr with drawn := wr.drawn + 1 } (s + 1) s lb m from ⟨HN.out.au.move rfl rfl, own_move HN.out.last rfl, HN.out.nd, HN.out.sm, below_drew HN.out.below⟩)
          clear hx hx2 HN
          refine wp_region_still_tail 9 (by kernel_rfl) (by kernel_rfl) ?_
          simp only [List.take_succ_cons, List.take_zero, List.drop_succ_cons, List.drop_zero]
          generalize ({ wr with drawn := wr.drawn + 1 } : World) = w4 at *
          repeat still_step
          refine wpStill_nil ?_
          rcases put_two m x y with hp | ⟨hp1, hp2⟩
          · have HP := Aside0.mk hp
            go_wp2_with fail
            refine (put_walk _ _ _ _ HN4.out.au x y hmx).mono ?_
            rw [HP.out]
            rintro e w5 ⟨rfl, hI5, hF5⟩
            have hN5 : NL2 w w5 (s + 1) s lb m (FM.put m x.data.toList y) := ⟨hI5, own_move HN4.out.last (hF5.block lb HN4.out.last.lt (by unfold Only; omega)), HN4.out.nd, HN4.out.sm, hF5.below HN4.out.below fun k hk => by unfold Only at hk; omega⟩
            obtain ⟨ad', e', hx5⟩ := Kd.at_string (Kd.C_below HC.out hN5.below) (i : Int) (by omega) (by omega)
            obtain rfl := Option.some.inj e'
            obtain ⟨ad2', e2', hy5⟩ := Kd.at_string (Kd.C_below HC2.out hN5.below) (i : Int) (by omega) (by omega)
            obtain rfl := Option.some.inj e2'
            rw [HXE.out] at hx5
            rw [HYE.out] at hy5
            simp only [Int.toNat_natCast] at hx5 hy5
            have hx6 : ({ w5 with drawn := w5.drawn + 1 } : World).cell? (ad.add i) = some (.string x) := hx5
            have hy6 : ({ w5 with drawn := w5.drawn + 1 } : World).cell? (ad2.add i) = some (.string y) := hy5
            have HN6 := Aside0.mk (show NL2 w { w5 with drawn := w5.drawn + 1 } (s + 1) s lb m (FM.put m x.data.toList y) from ⟨hN5.au.move rfl rfl, own_move hN5.last rfl, hN5.nd, hN5.sm, below_drew hN5.below⟩)
            have hml : m.length ≤ 1000000 := by have := HN4.out.au.len; omega
            clear hx4 hy4 hx5 hy5 hN5 hI5 hF5 hp HN4 e' e2'
            go_wp2_with fail
            refine wp_region_still_tail 9 (by kernel_rfl) (by kernel_rfl) ?_
            simp only [List.take_succ_cons, List.take_zero, List.drop_succ_cons, List.drop_zero]
            generalize ({ w5 with drawn := w5.drawn + 1 } : World) = w6 at *
            repeat still_step
            refine wpStill_nil ?_
            refine step_put rfl _ _ _ rfl lb m rfl HN6.out.last hml x y rfl rfl hmx ?_
            intro w7 ho hg
            have HN7 := Aside0.mk (show NL w w7 (s + 1) s lb (FM.put m x.data.toList y) from ⟨HN6.out.au.move (hg.block _ HN6.out.au.lt.1 fun e => by cases e; omega) (hg.block _ HN6.out.au.lt.2 fun e => by cases e; omega), ho, HN6.out.nd.put _ _, put_sm HN6.out.sm x y (by omega), (Fr.grown (S := fun k => k = lb) (Fr.refl _ _) hg rfl).below HN6.out.below fun k hk => by omega⟩)
            clear ho hg
            go_wp2
            go_roundg kq1
            case measure => omega
            case rel => exact ⟨i + 1, _, by simp, ⟨by have := HI.out; omega, by have := HQ.out; omega⟩, HN7⟩
          · have HP1 := Aside0.mk hp1
            obtain ⟨r, hr⟩ : ∃ r, (put m x y).2 = r := ⟨_, rfl⟩
            rw [hr] at hp2
            have HR := Aside0.mk hr
            clear hp1 hr
            rcases hp2 with rfl | rfl
            all_goals (
              go_wp2_with fail
              refine (put_walk _ _ _ _ HN4.out.au x y hmx).mono ?_
              rw [HR.out, HP1.out]
              rintro e w5 ⟨rfl, hI5, hF5⟩
              have HN5 := Aside0.mk (show NL w w5 (s + 1) s lb m from ⟨hI5, own_move HN4.out.last (hF5.block lb HN4.out.last.lt (by unfold Only; omega)), HN4.out.nd, HN4.out.sm, hF5.below HN4.out.below fun k hk => by unfold Only at hk; omega⟩)
              clear hx4 hy4 hI5 hF5
              go_wp2
              go_roundg kq1
              case measure => omega
              case rel => exact ⟨i + 1, _, by simp, ⟨by have := HI.out; omega, by have := HQ.out; omega⟩, HN5⟩)
    · have hex : ¬ i < l.length ∨ (i < l.length ∧ ¬ i < l2.length) ∨ (i < l.length ∧ i < l2.length ∧ ¬ i < 12) := by omega
      have HM := Aside0.mk HN.out.sm
      rcases hex with q1 | ⟨q1, q2⟩ | ⟨q1, q2, q3⟩
      · have q1' : ¬ (i : Int) < (l.length : Int) := by omega
        go_wp2_with fail
        refine (names_walk _ _ _ _ HN.out.au).mono ?_
        rintro e w8 ⟨v, rfl, hrow, hB8⟩
        obtain ⟨R, rc, rfl, hR, hrc, -⟩ := own_row (S := Only s) hrow (fun k hk => by have := HN.out.au.lt; unfold Only; omega)
        have hN8 : NL w w8 (s + 1) s lb m := ⟨HN.out.au.below hB8, own_move HN.out.last (hB8.block lb HN.out.last.lt), HN.out.nd, HN.out.sm, below_step HN.out.below hB8⟩
        have hlen := hN8.last.len Tryd.underlying61 3
        rw [FM.toD_size] at hlen
        rw [nameL_len]
        have HN8 := Aside0.mk (And.intro hN8 hR)
        clear hrow hB8 hN8 hR
        go_wp2_with fail
        have sC := chalS_size 9 9
        have HCC := Aside0.mk (show chalS 9 9 = chalS 9 9 from rfl)
        refine (chal_walk 9 9 (by decide) (by decide) _ (HL.out.step HN8.out.1.below h2) (Nat.le_trans h2 HN8.out.1.below.size)).mono ?_
        rintro e w9 ⟨rfl, hB9⟩
        have hM9 : N3 w w9 (s + 1) s lb m 0 R := ⟨by rw [rest_zero]; exact HN8.out.1.au.below hB9, own_move HN8.out.1.last (hB9.block lb HN8.out.1.last.lt), HN8.out.2.fr (Fr.of_below hB9), below_step HN8.out.1.below hB9⟩
        have HM9 := Aside0.mk hM9
        have HNd := Aside0.mk HN8.out.1.nd
        have hml : (m.length : Int) ≤ 4096 := by have := HN8.out.1.au.len; omega
        clear hB9 HN8 hlen hM9 HN
        generalize chalS 9 9 = C at *
        go_wp2_with fail
        go_loopg [82] (m.length + 1) (fun kq v w' => ∃ j : Nat, v = .int .i64 (j : Int) ∧ Aside0 (j + kq = m.length + 1 ∧ j ≤ m.length) ∧ Aside0 (N3 w w' (s + 1) s lb m j R))
        case atStart => exact ⟨0, rfl, ⟨by omega, Nat.zero_le _⟩, HM9⟩
        case round =>
          obtain ⟨j, rfl, HJ, HK⟩ := hrel
          clear HM9
          by_cases q : j < m.length
          · obtain ⟨kq1, rfl⟩ : ∃ kq1, gk = kq1 + 1 := ⟨gk - 1, by have := HJ.out; omega⟩
            have hj : (j : Int) < (m.length : Int) := by omega
            obtain ⟨ad, rfl, hx⟩ := RowAt.at_ HK.out.row j (by rw [nameL_len]; exact q)
            have hnm := nameL_at m j q
            have hsz := name_size HM.out j q
            obtain ⟨n, hn⟩ : ∃ n, (nameL m).getD j ByteArray.empty = n := ⟨_, rfl⟩
            rw [hn] at hx hnm hsz
            obtain ⟨u, hu⟩ := get_there j _ hnm
            have HG := Aside0.mk hu
            have hu2 := (rest_get HNd.out j _ hnm).trans hu
            have hus : u.size ≤ 64 := HK.out.au.fine _ (FM.mem_of_get hu2)
            have HT := Aside0.mk (show take (rest m j) n = (rest m (j + 1), 0) from by unfold take there; rw [hu2]; rw [if_pos (show (some u).isSome = true from rfl), rest_succ m j _ hnm])
            have HC1 := Aside0.mk (show check (rest m j) n C (proofS u n C) = 0 from by unfold check keyAt there; rw [hu2]; exact if_pos rfl)
            have HC2' := Aside0.mk (show ∀ p, check (rest m (j + 1)) n C p = 250 from fun p => by
              have h0 : FM.get (rest m (j + 1)) n.data.toList = none := by rw [← rest_succ m j _ hnm]; exact FM.get_del_same _ _
              unfold check there
              rw [h0]
              split <;> rfl)
            have sP := proofS_size u n C
            obtain ⟨P, hP⟩ : ∃ P, proofS u n C = P := ⟨_, rfl⟩
            rw [hP] at HC1 sP
            have HP := Aside0.mk hP
            have hmx : n.size ≤ maxLen := by unfold maxLen; omega
            have HQJ := Aside0.mk q
            have HNN := Aside0.mk hn
            have HNM := Aside0.mk hnm
            clear hnm hu hu2 hP hn q
            by_cases j0 : j = 0
            · have j0' : ¬ (0 : Int) < (j : Int) := by omega
              clear j0
              go_wp2_with (first | (at_lookup; refine step_look rfl _ _ rfl lb m rfl HK.out.last n rfl hmx ?_; rw [HG.out]))
              refine (proof_walk u n C _ (HL.out.step HK.out.below h2) (Nat.le_trans h2 HK.out.below.size) (by omega) (by omega) (by omega)).mono ?_
              rw [HP.out]
              rintro e w10 ⟨rfl, hB10⟩
              have HK10 := Aside0.mk (HK.out.step hB10)
              clear hB10
              go_wp2_with fail
              refine (check_walk _ _ _ _ HK10.out.au (HL.out.step HK10.out.below h2) (Nat.le_trans h2 HK10.out.below.size) n C P (by omega) (by omega) (by omega)).mono ?_
              rw [HC1.out]
              rintro e w11 ⟨rfl, hB11⟩
              have HK11 := Aside0.mk (HK10.out.step hB11)
              clear hB11
              go_wp2_with fail
              refine (take_walk _ _ _ _ HK11.out.au n hmx).mono ?_
              rw [HT.out]
              rintro e w12 ⟨rfl, hI12, hF12⟩
              have HK12 := Aside0.mk (show N3 w w12 (s + 1) s lb m (j + 1) (some ad) from ⟨hI12, own_move HK11.out.last (hF12.block lb HK11.out.last.lt (by unfold Only; omega)), HK11.out.row.fr hF12, hF12.below HK11.out.below fun k hk => by unfold Only at hk; omega⟩)
              clear hI12 hF12
              go_wp2_with fail
              refine (proof_walk u n C _ (HL.out.step HK12.out.below h2) (Nat.le_trans h2 HK12.out.below.size) (by omega) (by omega) (by omega)).mono ?_
              rw [HP.out]
              rintro e w13 ⟨rfl, hB13⟩
              have HK13 := Aside0.mk (HK12.out.step hB13)
              clear hB13
              go_wp2_with fail
              refine (check_walk _ _ _ _ HK13.out.au (HL.out.step HK13.out.below h2) (Nat.le_trans h2 HK13.out.below.size) n C P (by omega) (by omega) (by omega)).mono ?_
              rw [HC2'.out]
              rintro e w14 ⟨rfl, hB14⟩
              have HK14 := Aside0.mk (HK13.out.step hB14)
              clear hB14
              go_wp2_with fail
              go_roundg kq1
              case measure => omega
              case rel => exact ⟨j + 1, by simp, ⟨by have := HJ.out; omega, by have := HQJ.out; omega⟩, HK14⟩
            · have j0' : (0 : Int) < (j : Int) := by omega
              have HJ0 := Aside0.mk j0
              clear j0
              obtain ⟨ad', e', hx0⟩ := RowAt.at_ HK.out.row (j - 1) (by rw [nameL_len]; have := HJ.out; omega)
              obtain rfl := Option.some.inj e'
              obtain ⟨n0, hn0⟩ : ∃ n, (nameL m).getD (j - 1) ByteArray.empty = n := ⟨_, rfl⟩
              rw [hn0] at hx0
              have hbl : Op.bytesLess n0.toList n.toList = true := by
                rw [ByteArray.toList_eq, ByteArray.toList_eq, ← hn0]
                exact names_less HNd.out (j - 1) _ _ (nameL_at m (j - 1) (by have := HJ.out; have := HQJ.out; omega)) (by rw [Nat.sub_add_cancel (by omega)]; exact HNM.out)
              clear hn0 e'
              go_wp2_with (first | (at_lookup; refine step_look rfl _ _ rfl lb m rfl HK.out.last n rfl hmx ?_; rw [HG.out]))
              refine (proof_walk u n C _ (HL.out.step HK.out.below h2) (Nat.le_trans h2 HK.out.below.size) (by omega) (by omega) (by omega)).mono ?_
              rw [HP.out]
              rintro e w10 ⟨rfl, hB10⟩
              have HK10 := Aside0.mk (HK.out.step hB10)
              clear hB10
              go_wp2_with fail
              refine (check_walk _ _ _ _ HK10.out.au (HL.out.step HK10.out.below h2) (Nat.le_trans h2 HK10.out.below.size) n C P (by omega) (by omega) (by omega)).mono ?_
              rw [HC1.out]
              rintro e w11 ⟨rfl, hB11⟩
              have HK11 := Aside0.mk (HK10.out.step hB11)
              clear hB11
              go_wp2_with fail
              refine (take_walk _ _ _ _ HK11.out.au n hmx).mono ?_
              rw [HT.out]
              rintro e w12 ⟨rfl, hI12, hF12⟩
              have HK12 := Aside0.mk (show N3 w w12 (s + 1) s lb m (j + 1) (some ad) from ⟨hI12, own_move HK11.out.last (hF12.block lb HK11.out.last.lt (by unfold Only; omega)), HK11.out.row.fr hF12, hF12.below HK11.out.below fun k hk => by unfold Only at hk; omega⟩)
              clear hI12 hF12
              go_wp2_with fail
              refine (proof_walk u n C _ (HL.out.step HK12.out.below h2) (Nat.le_trans h2 HK12.out.below.size) (by omega) (by omega) (by omega)).mono ?_
              rw [HP.out]
              rintro e w13 ⟨rfl, hB13⟩
              have HK13 := Aside0.mk (HK12.out.step hB13)
              clear hB13
              go_wp2_with fail
              refine (check_walk _ _ _ _ HK13.out.au (HL.out.step HK13.out.below h2) (Nat.le_trans h2 HK13.out.below.size) n C P (by omega) (by omega) (by omega)).mono ?_
              rw [HC2'.out]
              rintro e w14 ⟨rfl, hB14⟩
              have HK14 := Aside0.mk (HK13.out.step hB14)
              clear hB14
              go_wp2_with fail
              go_roundg kq1
              case measure => omega
              case rel => exact ⟨j + 1, by simp, ⟨by have := HJ.out; omega, by have := HQJ.out; omega⟩, HK14⟩
          · have hj : ¬ (j : Int) < (m.length : Int) := by omega
            have hr0 : rest m j = [] := rest_all m j (by omega)
            have hz : (nameL (rest m j)).length = 0 := by rw [hr0, nameL_len]; rfl
            go_wp2_with fail
            refine (names_walk _ _ _ _ HK.out.au).mono ?_
            rintro e w15 ⟨v, rfl, hrow, hB15⟩
            obtain ⟨R2, rc2, rfl, -, -, -⟩ := own_row (S := fun _ => False) hrow (fun _ _ h => h)
            rw [hz]
            have HB15 := Aside0.mk (below_step HK.out.below hB15)
            clear hrow hB15 hr0 hz
            go_wp2
            go_ret
            first | exact ⟨rfl, HB15.out⟩ | exact ⟨rfl, HBs.out _ HB15.out⟩
      · have q1' : (i : Int) < (l.length : Int) := by omega
        have q2' : ¬ (i : Int) < (l2.length : Int) := by omega
        go_wp2_with fail
        refine (names_walk _ _ _ _ HN.out.au).mono ?_
        rintro e w8 ⟨v, rfl, hrow, hB8⟩
        obtain ⟨R, rc, rfl, hR, hrc, -⟩ := own_row (S := Only s) hrow (fun k hk => by have := HN.out.au.lt; unfold Only; omega)
        have hN8 : NL w w8 (s + 1) s lb m := ⟨HN.out.au.below hB8, own_move HN.out.last (hB8.block lb HN.out.last.lt), HN.out.nd, HN.out.sm, below_step HN.out.below hB8⟩
        have hlen := hN8.last.len Tryd.underlying61 3
        rw [FM.toD_size] at hlen
        rw [nameL_len]
        have HN8 := Aside0.mk (And.intro hN8 hR)
        clear hrow hB8 hN8 hR
        go_wp2_with fail
        have sC := chalS_size 9 9
        have HCC := Aside0.mk (show chalS 9 9 = chalS 9 9 from rfl)
        refine (chal_walk 9 9 (by decide) (by decide) _ (HL.out.step HN8.out.1.below h2) (Nat.le_trans h2 HN8.out.1.below.size)).mono ?_
        rintro e w9 ⟨rfl, hB9⟩
        have hM9 : N3 w w9 (s + 1) s lb m 0 R := ⟨by rw [rest_zero]; exact HN8.out.1.au.below hB9, own_move HN8.out.1.last (hB9.block lb HN8.out.1.last.lt), HN8.out.2.fr (Fr.of_below hB9), below_step HN8.out.1.below hB9⟩
        have HM9 := Aside0.mk hM9
        have HNd := Aside0.mk HN8.out.1.nd
        have hml : (m.length : Int) ≤ 4096 := by have := HN8.out.1.au.len; omega
        clear hB9 HN8 hlen hM9 HN
        generalize chalS 9 9 = C at *
        go_wp2_with fail
        go_loopg [82] (m.length + 1) (fun kq v w' => ∃ j : Nat, v = .int .i64 (j : Int) ∧ Aside0 (j + kq = m.length + 1 ∧ j ≤ m.length) ∧ Aside0 (N3 w w' (s + 1) s lb m j R))
        case atStart => exact ⟨0, rfl, ⟨by omega, Nat.zero_le _⟩, HM9⟩
        case round =>
          obtain ⟨j, rfl, HJ, HK⟩ := hrel
          clear HM9
          by_cases q : j < m.length
          · obtain ⟨kq1, rfl⟩ : ∃ kq1, gk = kq1 + 1 := ⟨gk - 1, by have := HJ.out; omega⟩
            have hj : (j : Int) < (m.length : Int) := by omega
            obtain ⟨ad, rfl, hx⟩ := RowAt.at_ HK.out.row j (by rw [nameL_len]; exact q)
            have hnm := nameL_at m j q
            have hsz := name_size HM.out j q
            obtain ⟨n, hn⟩ : ∃ n, (nameL m).getD j ByteArray.empty = n := ⟨_, rfl⟩
            rw [hn] at hx hnm hsz
            obtain ⟨u, hu⟩ := get_there j _ hnm
            have HG := Aside0.mk hu
            have hu2 := (rest_get HNd.out j _ hnm).trans hu
            have hus : u.size ≤ 64 := HK.out.au.fine _ (FM.mem_of_get hu2)
            have HT := Aside0.mk (show take (rest m j) n = (rest m (j + 1), 0) from by unfold take there; rw [hu2]; rw [if_pos (show (some u).isSome = true from rfl), rest_succ m j _ hnm])
            have HC1 := Aside0.mk (show check (rest m j) n C (proofS u n C) = 0 from by unfold check keyAt there; rw [hu2]; exact if_pos rfl)
            have HC2' := Aside0.mk (show ∀ p, check (rest m (j + 1)) n C p = 250 from fun p => by
              have h0 : FM.get (rest m (j + 1)) n.data.toList = none := by rw [← rest_succ m j _ hnm]; exact FM.get_del_same _ _
              unfold check there
              rw [h0]
              split <;> rfl)
            have sP := proofS_size u n C
            obtain ⟨P, hP⟩ : ∃ P, proofS u n C = P := ⟨_, rfl⟩
            rw [hP] at HC1 sP
            have HP := Aside0.mk hP
            have hmx : n.size ≤ maxLen := by unfold maxLen; omega
            have HQJ := Aside0.mk q
            have HNN := Aside0.mk hn
            have HNM := Aside0.mk hnm
            clear hnm hu hu2 hP hn q
            by_cases j0 : j = 0
            · have j0' : ¬ (0 : Int) < (j : Int) := by omega
              clear j0
              go_wp2_with (first | (at_lookup; refine step_look rfl _ _ rfl lb m rfl HK.out.last n rfl hmx ?_; rw [HG.out]))
              refine (proof_walk u n C _ (HL.out.step HK.out.below h2) (Nat.le_trans h2 HK.out.below.size) (by omega) (by omega) (by omega)).mono ?_
              rw [HP.out]
              rintro e w10 ⟨rfl, hB10⟩
              have HK10 := Aside0.mk (HK.out.step hB10)
              clear hB10
              go_wp2_with fail
              refine (check_walk _ _ _ _ HK10.out.au (HL.out.step HK10.out.below h2) (Nat.le_trans h2 HK10.out.below.size) n C P (by omega) (by omega) (by omega)).mono ?_
              rw [HC1.out]
              rintro e w11 ⟨rfl, hB11⟩
              have HK11 := Aside0.mk (HK10.out.step hB11)
              clear hB11
              go_wp2_with fail
              refine (take_walk _ _ _ _ HK11.out.au n hmx).mono ?_
              rw [HT.out]
              rintro e w12 ⟨rfl, hI12, hF12⟩
              have HK12 := Aside0.mk (show N3 w w12 (s + 1) s lb m (j + 1) (some ad) from ⟨hI12, own_move HK11.out.last (hF12.block lb HK11.out.last.lt (by unfold Only; omega)), HK11.out.row.fr hF12, hF12.below HK11.out.below fun k hk => by unfold Only at hk; omega⟩)
              clear hI12 hF12
              go_wp2_with fail
              refine (proof_walk u n C _ (HL.out.step HK12.out.below h2) (Nat.le_trans h2 HK12.out.below.size) (by omega) (by omega) (by omega)).mono ?_
              rw [HP.out]
              rintro e w13 ⟨rfl, hB13⟩
              have HK13 := Aside0.mk (HK12.out.step hB13)
              clear hB13
              go_wp2_with fail
              refine (check_walk _ _ _ _ HK13.out.au (HL.out.step HK13.out.below h2) (Nat.le_trans h2 HK13.out.below.size) n C P (by omega) (by omega) (by omega)).mono ?_
              rw [HC2'.out]
              rintro e w14 ⟨rfl, hB14⟩
              have HK14 := Aside0.mk (HK13.out.step hB14)
              clear hB14
              go_wp2_with fail
              go_roundg kq1
              case measure => omega
              case rel => exact ⟨j + 1, by simp, ⟨by have := HJ.out; omega, by have := HQJ.out; omega⟩, HK14⟩
            · have j0' : (0 : Int) < (j : Int) := by omega
              have HJ0 := Aside0.mk j0
              clear j0
              obtain ⟨ad', e', hx0⟩ := RowAt.at_ HK.out.row (j - 1) (by rw [nameL_len]; have := HJ.out; omega)
              obtain rfl := Option.some.inj e'
              obtain ⟨n0, hn0⟩ : ∃ n, (nameL m).getD (j - 1) ByteArray.empty = n := ⟨_, rfl⟩
              rw [hn0] at hx0
              have hbl : Op.bytesLess n0.toList n.toList = true := by
                rw [ByteArray.toList_eq, ByteArray.toList_eq, ← hn0]
                exact names_less HNd.out (j - 1) _ _ (nameL_at m (j - 1) (by have := HJ.out; have := HQJ.out; omega)) (by rw [Nat.sub_add_cancel (by omega)]; exact HNM.out)
              clear hn0 e'
              go_wp2_with (first | (at_lookup; refine step_look rfl _ _ rfl lb m rfl HK.out.last n rfl hmx ?_; rw [HG.out]))
              refine (proof_walk u n C _ (HL.out.step HK.out.below h2) (Nat.le_trans h2 HK.out.below.size) (by omega) (by omega) (by omega)).mono ?_
              rw [HP.out]
              rintro e w10 ⟨rfl, hB10⟩
              have HK10 := Aside0.mk (HK.out.step hB10)
              clear hB10
              go_wp2_with fail
              refine (check_walk _ _ _ _ HK10.out.au (HL.out.step HK10.out.below h2) (Nat.le_trans h2 HK10.out.below.size) n C P (by omega) (by omega) (by omega)).mono ?_
              rw [HC1.out]
              rintro e w11 ⟨rfl, hB11⟩
              have HK11 := Aside0.mk (HK10.out.step hB11)
              clear hB11
              go_wp2_with fail
              refine (take_walk _ _ _ _ HK11.out.au n hmx).mono ?_
              rw [HT.out]
              rintro e w12 ⟨rfl, hI12, hF12⟩
              have HK12 := Aside0.mk (show N3 w w12 (s + 1) s lb m (j + 1) (some ad) from ⟨hI12, own_move HK11.out.last (hF12.block lb HK11.out.last.lt (by unfold Only; omega)), HK11.out.row.fr hF12, hF12.below HK11.out.below fun k hk => by unfold Only at hk; omega⟩)
              clear hI12 hF12
              go_wp2_with fail
              refine (proof_walk u n C _ (HL.out.step HK12.out.below h2) (Nat.le_trans h2 HK12.out.below.size) (by omega) (by omega) (by omega)).mono ?_
              rw [HP.out]
              rintro e w13 ⟨rfl, hB13⟩
              have HK13 := Aside0.mk (HK12.out.step hB13)
              clear hB13
              go_wp2_with fail
              refine (check_walk _ _ _ _ HK13.out.au (HL.out.step HK13.out.below h2) (Nat.le_trans h2 HK13.out.below.size) n C P (by omega) (by omega) (by omega)).mono ?_
              rw [HC2'.out]
              rintro e w14 ⟨rfl, hB14⟩
              have HK14 := Aside0.mk (HK13.out.step hB14)
              clear hB14
              go_wp2_with fail
              go_roundg kq1
              case measure => omega
              case rel => exact ⟨j + 1, by simp, ⟨by have := HJ.out; omega, by have := HQJ.out; omega⟩, HK14⟩
          · have hj : ¬ (j : Int) < (m.length : Int) := by omega
            have hr0 : rest m j = [] := rest_all m j (by omega)
            have hz : (nameL (rest m j)).length = 0 := by rw [hr0, nameL_len]; rfl
            go_wp2_with fail
            refine (names_walk _ _ _ _ HK.out.au).mono ?_
            rintro e w15 ⟨v, rfl, hrow, hB15⟩
            obtain ⟨R2, rc2, rfl, -, -, -⟩ := own_row (S := fun _ => False) hrow (fun _ _ h => h)
            rw [hz]
            have HB15 := Aside0.mk (below_step HK.out.below hB15)
            clear hrow hB15 hr0 hz
            go_wp2
            go_ret
            first | exact ⟨rfl, HB15.out⟩ | exact ⟨rfl, HBs.out _ HB15.out⟩
      · have q1' : (i : Int) < (l.length : Int) := by omega
        have q2' : (i : Int) < (l2.length : Int) := by omega
        have q3' : ¬ (i : Int) < 12 := by omega
        go_wp2_with fail
        refine (names_walk _ _ _ _ HN.out.au).mono ?_
        rintro e w8 ⟨v, rfl, hrow, hB8⟩
        obtain ⟨R, rc, rfl, hR, hrc, -⟩ := own_row (S := Only s) hrow (fun k hk => by have := HN.out.au.lt; unfold Only; omega)
        have hN8 : NL w w8 (s + 1) s lb m := ⟨HN.out.au.below hB8, own_move HN.out.last (hB8.block lb HN.out.last.lt), HN.out.nd, HN.out.sm, below_step HN.out.below hB8⟩
        have hlen := hN8.last.len Tryd.underlying61 3
        rw [FM.toD_size] at hlen
        rw [nameL_len]
        have HN8 := Aside0.mk (And.intro hN8 hR)
        clear hrow hB8 hN8 hR
        go_wp2_with fail
        have sC := chalS_size 9 9
        have HCC := Aside0.mk (show chalS 9 9 = chalS 9 9 from rfl)
        refine (chal_walk 9 9 (by decide) (by decide) _ (HL.out.step HN8.out.1.below h2) (Nat.le_trans h2 HN8.out.1.below.size)).mono ?_
        rintro e w9 ⟨rfl, hB9⟩
        have hM9 : N3 w w9 (s + 1) s lb m 0 R := ⟨by rw [rest_zero]; exact HN8.out.1.au.below hB9, own_move HN8.out.1.last (hB9.block lb HN8.out.1.last.lt), HN8.out.2.fr (Fr.of_below hB9), below_step HN8.out.1.below hB9⟩
        have HM9 := Aside0.mk hM9
        have HNd := Aside0.mk HN8.out.1.nd
        have hml : (m.length : Int) ≤ 4096 := by have := HN8.out.1.au.len; omega
        clear hB9 HN8 hlen hM9 HN
        generalize chalS 9 9 = C at *
        go_wp2_with fail
        go_loopg [82] (m.length + 1) (fun kq v w' => ∃ j : Nat, v = .int .i64 (j : Int) ∧ Aside0 (j + kq = m.length + 1 ∧ j ≤ m.length) ∧ Aside0 (N3 w w' (s + 1) s lb m j R))
        case atStart => exact ⟨0, rfl, ⟨by omega, Nat.zero_le _⟩, HM9⟩
        case round =>
          obtain ⟨j, rfl, HJ, HK⟩ := hrel
          clear HM9
          by_cases q : j < m.length
          · obtain ⟨kq1, rfl⟩ : ∃ kq1, gk = kq1 + 1 := ⟨gk - 1, by have := HJ.out; omega⟩
            have hj : (j : Int) < (m.length : Int) := by omega
            obtain ⟨ad, rfl, hx⟩ := RowAt.at_ HK.out.row j (by rw [nameL_len]; exact q)
            have hnm := nameL_at m j q
            have hsz := name_size HM.out j q
            obtain ⟨n, hn⟩ : ∃ n, (nameL m).getD j ByteArray.empty = n := ⟨_, rfl⟩
            rw [hn] at hx hnm hsz
            obtain ⟨u, hu⟩ := get_there j _ hnm
            have HG := Aside0.mk hu
            have hu2 := (rest_get HNd.out j _ hnm).trans hu
            have hus : u.size ≤ 64 := HK.out.au.fine _ (FM.mem_of_get hu2)
            have HT := Aside0.mk (show take (rest m j) n = (rest m (j + 1), 0) from by unfold take there; rw [hu2]; rw [if_pos (show (some u).isSome = true from rfl), rest_succ m j _ hnm])
            have HC1 := Aside0.mk (show check (rest m j) n C (proofS u n C) = 0 from by unfold check keyAt there; rw [hu2]; exact if_pos rfl)
            have HC2' := Aside0.mk (show ∀ p, check (rest m (j + 1)) n C p = 250 from fun p => by
              have h0 : FM.get (rest m (j + 1)) n.data.toList = none := by rw [← rest_succ m j _ hnm]; exact FM.get_del_same _ _
              unfold check there
              rw [h0]
              split <;> rfl)
            have sP := proofS_size u n C
            obtain ⟨P, hP⟩ : ∃ P, proofS u n C = P := ⟨_, rfl⟩
            rw [hP] at HC1 sP
            have HP := Aside0.mk hP
            have hmx : n.size ≤ maxLen := by unfold maxLen; omega
            have HQJ := Aside0.mk q
            have HNN := Aside0.mk hn
            have HNM := Aside0.mk hnm
            clear hnm hu hu2 hP hn q
            by_cases j0 : j = 0
            · have j0' : ¬ (0 : Int) < (j : Int) := by omega
              clear j0
              go_wp2_with (first | (at_lookup; refine step_look rfl _ _ rfl lb m rfl HK.out.last n rfl hmx ?_; rw [HG.out]))
              refine (proof_walk u n C _ (HL.out.step HK.out.below h2) (Nat.le_trans h2 HK.out.below.size) (by omega) (by omega) (by omega)).mono ?_
              rw [HP.out]
              rintro e w10 ⟨rfl, hB10⟩
              have HK10 := Aside0.mk (HK.out.step hB10)
              clear hB10
              go_wp2_with fail
              refine (check_walk _ _ _ _ HK10.out.au (HL.out.step HK10.out.below h2) (Nat.le_trans h2 HK10.out.below.size) n C P (by omega) (by omega) (by omega)).mono ?_
              rw [HC1.out]
              rintro e w11 ⟨rfl, hB11⟩
              have HK11 := Aside0.mk (HK10.out.step hB11)
              clear hB11
              go_wp2_with fail
              refine (take_walk _ _ _ _ HK11.out.au n hmx).mono ?_
              rw [HT.out]
              rintro e w12 ⟨rfl, hI12, hF12⟩
              have HK12 := Aside0.mk (show N3 w w12 (s + 1) s lb m (j + 1) (some ad) from ⟨hI12, own_move HK11.out.last (hF12.block lb HK11.out.last.lt (by unfold Only; omega)), HK11.out.row.fr hF12, hF12.below HK11.out.below fun k hk => by unfold Only at hk; omega⟩)
              clear hI12 hF12
              go_wp2_with fail
              refine (proof_walk u n C _ (HL.out.step HK12.out.below h2) (Nat.le_trans h2 HK12.out.below.size) (by omega) (by omega) (by omega)).mono ?_
              rw [HP.out]
              rintro e w13 ⟨rfl, hB13⟩
              have HK13 := Aside0.mk (HK12.out.step hB13)
              clear hB13
              go_wp2_with fail
              refine (check_walk _ _ _ _ HK13.out.au (HL.out.step HK13.out.below h2) (Nat.le_trans h2 HK13.out.below.size) n C P (by omega) (by omega) (by omega)).mono ?_
              rw [HC2'.out]
              rintro e w14 ⟨rfl, hB14⟩
              have HK14 := Aside0.mk (HK13.out.step hB14)
              clear hB14
              go_wp2_with fail
              go_roundg kq1
              case measure => omega
              case rel => exact ⟨j + 1, by simp, ⟨by have := HJ.out; omega, by have := HQJ.out; omega⟩, HK14⟩
            · have j0' : (0 : Int) < (j : Int) := by omega
              have HJ0 := Aside0.mk j0
              clear j0
              obtain ⟨ad', e', hx0⟩ := RowAt.at_ HK.out.row (j - 1) (by rw [nameL_len]; have := HJ.out; omega)
              obtain rfl := Option.some.inj e'
              obtain ⟨n0, hn0⟩ : ∃ n, (nameL m).getD (j - 1) ByteArray.empty = n := ⟨_, rfl⟩
              rw [hn0] at hx0
              have hbl : Op.bytesLess n0.toList n.toList = true := by
                rw [ByteArray.toList_eq, ByteArray.toList_eq, ← hn0]
                exact names_less HNd.out (j - 1) _ _ (nameL_at m (j - 1) (by have := HJ.out; have := HQJ.out; omega)) (by rw [Nat.sub_add_cancel (by omega)]; exact HNM.out)
              clear hn0 e'
              go_wp2_with (first | (at_lookup; refine step_look rfl _ _ rfl lb m rfl HK.out.last n rfl hmx ?_; rw [HG.out]))
              refine (proof_walk u n C _ (HL.out.step HK.out.below h2) (Nat.le_trans h2 HK.out.below.size) (by omega) (by omega) (by omega)).mono ?_
              rw [HP.out]
              rintro e w10 ⟨rfl, hB10⟩
              have HK10 := Aside0.mk (HK.out.step hB10)
              clear hB10
              go_wp2_with fail
              refine (check_walk _ _ _ _ HK10.out.au (HL.out.step HK10.out.below h2) (Nat.le_trans h2 HK10.out.below.size) n C P (by omega) (by omega) (by omega)).mono ?_
              rw [HC1.out]
              rintro e w11 ⟨rfl, hB11⟩
              have HK11 := Aside0.mk (HK10.out.step hB11)
              clear hB11
              go_wp2_with fail
              refine (take_walk _ _ _ _ HK11.out.au n hmx).mono ?_
              rw [HT.out]
              rintro e w12 ⟨rfl, hI12, hF12⟩
              have HK12 := Aside0.mk (show N3 w w12 (s + 1) s lb m (j + 1) (some ad) from ⟨hI12, own_move HK11.out.last (hF12.block lb HK11.out.last.lt (by unfold Only; omega)), HK11.out.row.fr hF12, hF12.below HK11.out.below fun k hk => by unfold Only at hk; omega⟩)
              clear hI12 hF12
              go_wp2_with fail
              refine (proof_walk u n C _ (HL.out.step HK12.out.below h2) (Nat.le_trans h2 HK12.out.below.size) (by omega) (by omega) (by omega)).mono ?_
              rw [HP.out]
              rintro e w13 ⟨rfl, hB13⟩
              have HK13 := Aside0.mk (HK12.out.step hB13)
              clear hB13
              go_wp2_with fail
              refine (check_walk _ _ _ _ HK13.out.au (HL.out.step HK13.out.below h2) (Nat.le_trans h2 HK13.out.below.size) n C P (by omega) (by omega) (by omega)).mono ?_
              rw [HC2'.out]
              rintro e w14 ⟨rfl, hB14⟩
              have HK14 := Aside0.mk (HK13.out.step hB14)
              clear hB14
              go_wp2_with fail
              go_roundg kq1
              case measure => omega
              case rel => exact ⟨j + 1, by simp, ⟨by have := HJ.out; omega, by have := HQJ.out; omega⟩, HK14⟩
          · have hj : ¬ (j : Int) < (m.length : Int) := by omega
            have hr0 : rest m j = [] := rest_all m j (by omega)
            have hz : (nameL (rest m j)).length = 0 := by rw [hr0, nameL_len]; rfl
            go_wp2_with fail
            refine (names_walk _ _ _ _ HK.out.au).mono ?_
            rintro e w15 ⟨v, rfl, hrow, hB15⟩
            obtain ⟨R2, rc2, rfl, -, -, -⟩ := own_row (S := fun _ => False) hrow (fun _ _ h => h)
            rw [hz]
            have HB15 := Aside0.mk (below_step HK.out.below hB15)
            clear hrow hB15 hr0 hz
            go_wp2
            go_ret
            first | exact ⟨rfl, HB15.out⟩ | exact ⟨rfl, HBs.out _ HB15.out⟩
end Go.Proofs.YtdnmllodefbekaaDoor.Au
