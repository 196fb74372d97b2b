import Derived.Test.YtmfbmagbpceomaaWireWorks
namespace Go.Proofs.Ytmfbmagbpceomaa.Wire
open Go.RowKit Go.Proofs.YtmfbmagbpceomaaW.PrintWords Go.Proofs.YtmfbmagbpceomaaW.PrintLast Go.Proofs.YtmfbmagbpceomaaW.PrintMore
set_option linter.unusedVariables false
set_option linter.unusedSimpArgs false
theorem feed_fine2 (kept : List Int) (b : ByteArray) (hb : ¬ 262144 < b.size) : Fine (kept.length + b.size) (feedF kept false b) := by
  have e : (kept ++ bytesOf b).length = kept.length + b.size := by rw [List.length_append, bytesOf_length]
  have := fl_fine (kept ++ bytesOf b) ((kept ++ bytesOf b).length + 1) [] 0 (Nat.zero_le _) (by omega) rfl
  rw [← e]
  simpa [feedF, hb] using this
theorem wsum_take (l : List ByteArray) (d : ByteArray) (j : Nat) (h : j < l.length) : wsum (l.take (j + 1)) = wsum (l.take j) + (4 + (l.getD j d).size) := by
  rw [List.take_succ_eq_append_getElem h, wsum_append, List.getD_eq_getElem?_getD, List.getElem?_eq_getElem h]
  rfl
theorem len_wsum (l : List ByteArray) : l.length ≤ wsum l := by
  induction l with
  | nil => simp [wsum]
  | cons x l ih => simp only [List.length_cons, wsum]; omega
theorem wsum_take_le (l : List ByteArray) : ∀ j, wsum (l.take j) ≤ wsum l := by
  induction l with
  | nil => intro j; simp [wsum]
  | cons x l ih => intro j; cases j with
    | zero => simp [wsum]
    | succ j => simp only [List.take_succ_cons, wsum]; have := ih j; omega
set_option maxRecDepth 10000 in
set_option maxHeartbeats 4000000 in
theorem left_walk (A : Option Addr) (l : List ByteArray) (c : Nat) (w : World) (h : Kd.C Kd.string w A l.length l) (hc : l.length ≤ c) :
    Calls Try.prog 4 #[.slice A l.length c] w fun e w' => e = .returned (.bool true) ∧ Below w.heap.size w w' := by
  have HC := Aside0.mk h
  clear h
  go_enter Try.func4, Try.ntmps4
  go_wp2_with fail
  refine (new_calls w w (Below.refl _ _)).mono ?_
  rintro e w1 ⟨g, rfl, hS, hB, _⟩
  have HS := Aside0.mk hS
  have HB := Aside0.mk hB
  clear hS hB
  go_wp2_with fail
  refine (works_calls w1).mono ?_
  rintro e w2 ⟨rfl, hb2⟩
  have HS2 := Aside0.mk (HS.out.below hb2)
  have HB2 := Aside0.mk (below_step HB.out hb2)
  clear hb2 HS HB
  go_wp2_with fail
  go_loopg [4, 5, 6] 61 (fun kq v4 v5 v6 w' => ∃ (i fed given : Nat) (kept : List Int), v6 = .int .i64 (i : Int) ∧ v4 = .int .i64 (fed : Int) ∧ v5 = .int .i64 (given : Int) ∧ Aside0 (i + kq = 61 ∧ i ≤ 60 ∧ kept.length + given = fed ∧ fed ≤ i * 262144 ∧ kept.length < 65540) ∧ Aside0 (St w w' g kept false ∧ Below w.heap.size w w'))
  case atStart => exact ⟨0, 0, 0, [], rfl, rfl, rfl, ⟨rfl, Nat.zero_le _, rfl, Nat.zero_le _, by simp⟩, ⟨HS2.out, HB2.out⟩⟩
  case round =>
    obtain ⟨i, fed, given, kept, rfl, rfl, rfl, HI, HS⟩ := hrel
    clear HS2 HB2
    obtain ⟨p1, p2, p3, p4, p5⟩ := HI.out
    by_cases q1 : i < l.length
    · by_cases q2 : i < 60
      · obtain ⟨kq1, rfl⟩ : ∃ kq1, gk = kq1 + 1 := ⟨gk - 1, by omega⟩
        obtain ⟨ad, rfl, hx⟩ := Kd.at_string (Kd.C_below HC.out HS.out.2) (i : Int) (by omega) (by omega)
        obtain ⟨s, hs⟩ : ∃ s, rdOf ByteArray.empty l (i : Int) = s := ⟨_, rfl⟩
        rw [hs] at hx
        have q1' : (i : Int) < (l.length : Int) := by omega
        have q2' : (i : Int) < 60 := by omega
        have hs' := Aside0.mk hs
        clear p1 p2 p3 p4 p5 q1 q2 hs
        simp only [Int.toNat_natCast] at hx
        go_wp2_with fail
        refine (feed_calls g kept false s w wr HS.out.1 HS.out.2 (by have := HI.out; omega)).mono ?_
        rintro e w3 hP
        by_cases hbig : 262144 < s.size
        · have e2 : feedF kept false s = ([], 2, kept, false) := by simp [feedF, hbig]
          rw [e2] at hP
          obtain ⟨v3, rfl, hR3, hS3, hB3, _⟩ := hP
          have HS3 := Aside0.mk (And.intro hS3 hB3)
          obtain ⟨A3, n3, rfl⟩ := Kd.R_slice hR3
          clear hR3 hS3 hB3 e2 hx HS
          go_wp2_with fail
          go_roundg kq1
          case measure => omega
          case rel => exact ⟨i + 1, fed, given, kept, by simp, rfl, rfl, ⟨by have := HI.out; omega, by have := HI.out; omega, by have := HI.out; omega, by have := HI.out; omega, by have := HI.out; omega⟩, HS3⟩
        · have hF := feed_fine2 kept s hbig
          generalize feedF kept false s = r at hP hF
          obtain ⟨bs, code, k', bd⟩ := r
          obtain ⟨v3, rfl, hR3, hS3, hB3, _⟩ := hP
          simp only at hR3 hS3 hF
          rcases hF with ⟨f1, f2⟩ | ⟨f1, f2, f3, f4⟩
          · simp only at f1 f2
            subst f1
            simp only [Prod.mk.injEq] at f2
            obtain ⟨rfl, rfl⟩ := f2
            obtain ⟨A3, n3, rfl⟩ := Kd.R_slice hR3
            have HS3 := Aside0.mk (And.intro hS3 hB3)
            clear hR3 hS3 hB3 hx HS hbig
            go_wp2_with fail
            refine (bad_calls g [] true w w3 HS3.out.1).mono ?_
            rintro e w4 ⟨rfl, hd⟩
            obtain ⟨n4, rfl⟩ := hd.out
            have HS4 := Aside0.mk (And.intro (HS3.out.1.below hd.below) (pw_below_drewN HS3.out.2 n4))
            clear hd
            go_wp2_with fail
            refine (left_calls g [] true w _ HS4.out.1).mono ?_
            rintro e w5 ⟨rfl, hd⟩
            have HS5 := Aside0.mk (below_step HS4.out.2 hd.below)
            clear hd
            go_wp2
            go_ret
            exact ⟨rfl, HS5.out⟩
          · simp only at f1 f2 f3 f4
            subst f1
            subst f2
            obtain ⟨ad', e', hx3⟩ := Kd.at_string (Kd.C_below HC.out hB3) (i : Int) (by omega) (by omega)
            injection e' with e'
            subst e'
            rw [hs'.out] at hx3
            simp only [Int.toNat_natCast] at hx3
            obtain ⟨A3, n3, rfl⟩ := Kd.R_slice hR3
            have HS3 := Aside0.mk (And.intro hS3 hB3)
            have HR3 := Aside0.mk hR3
            have HF := Aside0.mk (And.intro f3 (And.intro f4 hbig))
            have hsz : s.size ≤ 262144 := by omega
            have hfed : fed ≤ 15728640 := by have := HI.out; omega
            clear hR3 hS3 hB3 hx HS f3 f4 hbig
            go_wp2_with fail
            go_loopg [5, 61] (bs.length + 1) (fun kr v5 v61 w' => ∃ (j gv : Nat), v61 = .int .i64 (j : Int) ∧ v5 = .int .i64 (gv : Int) ∧ Aside0 (j + kr = bs.length + 1 ∧ gv = given + wsum (bs.take j)) ∧ w' = w3)
            case atStart => exact ⟨0, given, rfl, rfl, ⟨by omega, by simp [wsum]⟩, rfl⟩
            case round =>
              obtain ⟨j, gv, rfl, rfl, HJ, hww⟩ := hrel
              subst hww
              by_cases t1 : j < bs.length
              · obtain ⟨kr1, rfl⟩ : ∃ kr1, gk = kr1 + 1 := ⟨gk - 1, by have := HJ.out; omega⟩
                obtain ⟨gb, cap, he, _⟩ := Kd.R_form HR3.out (by omega)
                injection he with he1 he2 he3
                subst he1
                have ct := (Kd.R_cell ByteArray.empty HR3.out (j : Int) (by omega) (by omega)).1
                obtain ⟨t, ht⟩ : ∃ t, rdOf ByteArray.empty bs (j : Int) = t := ⟨_, rfl⟩
                rw [ht] at ct
                simp only [Int.toNat_natCast] at ct
                have ht2 : wsum (bs.take (j + 1)) = wsum (bs.take j) + (4 + t.size) := by rw [wsum_take bs ByteArray.empty j t1, ← ht]; rfl
                have ht3 := wsum_take_le bs (j + 1)
                have HT := Aside0.mk (And.intro ht2 ht3)
                have hb1 : t.size ≤ 400000 := by have := HF.out; have := HI.out; omega
                have hb2 : gv ≤ 20000000 := by have := HF.out; have := HI.out; have := HJ.out; omega
                have t1' : (j : Int) < (bs.length : Int) := by omega
                have hj9 : j ≤ 400000 := by have := HF.out; have := HI.out; have := len_wsum bs; omega
                clear ht ht2 ht3 t1 he2 he3
                go_wp2
                go_roundg kr1
                case measure => omega
                case rel => exact ⟨j + 1, gv + (4 + t.size), by simp, by simp, ⟨by have := HJ.out; omega, by have := HJ.out; have := HT.out; omega⟩, rfl⟩
              · have t1' : (bs.length : Int) ≤ (j : Int) := by omega
                have hall : bs.take j = bs := List.take_of_length_le (by omega)
                have hgv : gv = given + wsum bs := by have := HJ.out.2; rwa [hall] at this
                have hk : (fed : Int) + (s.size : Int) - (gv : Int) = (k'.length : Int) := by have := HF.out; have := HI.out; omega
                have hk2 : decide ((65540 : Int) ≤ (k'.length : Int)) = false := decide_eq_false (by have := HF.out; omega)
                have hk3 : decide ((k'.length : Int) ≥ 65540) = false := decide_eq_false (by have := HF.out; omega)
                have hgv2 : gv ≤ 20000000 := by have := HF.out; have := HI.out; omega
                have HG := Aside0.mk hgv
                have HK9 := Aside0.mk hk
                clear hall t1 hgv hk hk2
                go_wp2_with fail
                refine (left_calls g k' false w _ HS3.out.1).mono ?_
                rintro e w4 ⟨rfl, hd⟩
                have HS4 := Aside0.mk (And.intro (HS3.out.1.below hd.below) (below_step HS3.out.2 hd.below))
                clear hd
                have hk := HK9.out
                go_wp2_with fail
                refine (left_calls g k' false w _ HS4.out.1).mono ?_
                rintro e w5 ⟨rfl, hd⟩
                have HS5 := Aside0.mk (And.intro (HS4.out.1.below hd.below) (below_step HS4.out.2 hd.below))
                clear hd hk
                have hk2 : decide ((65540 : Int) ≤ (k'.length : Int)) = false := decide_eq_false (by have := HF.out; omega)
                have hk3 : decide ((k'.length : Int) ≥ 65540) = false := decide_eq_false (by have := HF.out; omega)
                go_wp2_with fail
                refine (bad_calls g k' false w _ HS5.out.1).mono ?_
                rintro e w6 ⟨rfl, hd⟩
                have HS6 := Aside0.mk (And.intro (HS5.out.1.below hd.below) (below_step HS5.out.2 hd.below))
                clear hd
                go_wp2_with fail
                go_roundg kq1
                case measure => omega
                case rel => exact ⟨i + 1, fed + s.size, gv, k', by simp, by simp, rfl, ⟨by have := HI.out; omega, by have := HI.out; omega, by have := HI.out; have := HF.out; have := HG.out; omega, by have := HI.out; omega, HF.out.1⟩, HS6⟩
      · obtain rfl : i = 60 := by omega
        have q1' : (60 : Int) < (l.length : Int) := by omega
        clear p1 p2 p3 p4 p5 q1 q2
        go_wp2
        go_ret
        exact ⟨rfl, HS.out.2⟩
    · have q1' : (l.length : Int) ≤ (i : Int) := by omega
      clear p1 p2 p3 p4 p5 q1
      go_wp2
      go_ret
      exact ⟨rfl, HS.out.2⟩
end Go.Proofs.Ytmfbmagbpceomaa.Wire
