/- Mq: the texts Sc55, Sc56, Sc57, Sc58, one behind the other. -/
import Derived.Test.YtjehbnhjaogfkaaSc1
import Derived.Test.YtjehbnhjaogfkaaSc3
import Derived.Test.YtjehbnhjaogfkaaWTab
section
namespace Go.Proofs.Ytjehbnhjaogfkaa.Sc
open Go.RowKit Go.Lib Go.Proofs.YtjehbnhjaogfkaaW.PrintWords Go.Proofs.YtjehbnhjaogfkaaW.PrintLast Go.Proofs.YtjehbnhjaogfkaaW.PrintMore
open Go.Proofs.Ytjehbnhjaogfkaa
set_option linter.unusedVariables false
set_option linter.unusedSimpArgs false
theorem nmC_int (c : UInt8) : nmC c = (decide (97 ≤ (c.toNat : Int)) && decide ((c.toNat : Int) ≤ 122) || decide (48 ≤ (c.toNat : Int)) && decide ((c.toNat : Int) ≤ 57)) := by
  unfold nmC
  have e1 : (97 : UInt8).toNat = 97 := rfl
  have e2 : (122 : UInt8).toNat = 122 := rfl
  have e3 : (48 : UInt8).toNat = 48 := rfl
  have e4 : (57 : UInt8).toNat = 57 := rfl
  simp only [UInt8.le_iff_toNat_le, e1, e2, e3, e4]
  rw [Bool.eq_iff_iff]
  simp
  omega
theorem list_ba {s : ByteArray} {j : Nat} (h : j < s.size) (h' : j < s.data.toList.length) : s.data.toList[j] = s[j] := by
  rw [Array.getElem_toList]
  rfl
set_option maxRecDepth 100000 in
set_option maxHeartbeats 8000000 in
/-- The document's Named. -/
theorem dnamed_walk (s : ByteArray) (w : World) : Calls Try.prog 58 #[.string s] w fun e w' => e = .returned (.bool (nmOk s)) ∧ w = w' := by
  have hl : s.data.toList.length = s.size := by rw [Array.length_toList]; rfl
  have HL := Aside0.mk hl
  obtain ⟨r, hr⟩ : ∃ r, nmOk s = r := ⟨_, rfl⟩
  rw [hr]
  have HRr := Aside0.mk hr
  clear hr hl
  by_cases h0 : s.data.toList = []
  · have hb : (s.toList == ([] : List UInt8)) = true := by rw [ByteArray.toList_eq, h0]; rfl
    obtain rfl : r = false := by rw [← HRr.out]; unfold nmOk; rw [h0]; rfl
    clear HRr h0
    go_enter Try.func58, Try.ntmps58
    go_wp2_with fail
    go_ret
    exact ⟨rfl, rfl⟩
  · have hb : (s.toList == ([] : List UInt8)) = false := by rw [ByteArray.toList_eq]; cases hx : s.data.toList with | nil => exact absurd hx h0 | cons a b => rfl
    have he : s.data.toList.isEmpty = false := by cases hx : s.data.toList with | nil => exact absurd hx h0 | cons a b => rfl
    by_cases h32 : 32 < s.size
    · have hi : (32 : Int) < (s.size : Int) := by omega
      obtain rfl : r = false := by rw [← HRr.out]; unfold nmOk; rw [decide_eq_false (show ¬ s.size ≤ 32 by omega), Bool.and_false]; rfl
      clear HRr h0 he
      go_enter Try.func58, Try.ntmps58
      go_wp2_with fail
      go_ret
      exact ⟨rfl, rfl⟩
    · have hi : ¬ (32 : Int) < (s.size : Int) := by omega
      have hs32 : s.size ≤ 32 := by omega
      have H0 := Aside0.mk (show (s.data.toList.drop 0).all nmC = r by rw [← HRr.out]; unfold nmOk; rw [he, decide_eq_true hs32]; rfl)
      clear HRr h0 he h32
      go_enter Try.func58, Try.ntmps58
      go_wp2_with fail
      go_loopg [3] (s.size + 1) (fun kq v3 w' => ∃ (j : Nat), v3 = .int .i64 (j : Int) ∧ Aside0 (j + kq = s.size + 1 ∧ j ≤ s.size) ∧ Aside0 ((s.data.toList.drop j).all nmC = r) ∧ w = w')
      case atStart => exact ⟨0, rfl, ⟨by omega, Nat.zero_le _⟩, H0, rfl⟩
      case round =>
        clear H0 hb
        obtain ⟨j, rfl, HJ, HA, rfl⟩ := hrel
        by_cases hj : j < s.size
        · have hjn : (j : Int) < (s.size : Int) := by omega
          have hj0 : (0 : Int) ≤ (j : Int) := by omega
          obtain ⟨kq1, rfl⟩ : ∃ kq1, gk = kq1 + 1 := ⟨gk - 1, by have := HJ.out.1; omega⟩
          obtain ⟨c, hc⟩ : ∃ c, s[j] = c := ⟨_, rfl⟩
          have hx : ∀ hh, (s[j]'hh) = c := fun hh => hc
          have hA2 := HA.out
          rw [List.drop_eq_getElem_cons (HL.out ▸ hj), List.all_cons, list_ba hj, hc, nmC_int] at hA2
          have HA2 := Aside0.mk hA2
          have HJn := Aside0.mk hj
          clear HA hA2 hc hj
          have h256 : (c.toNat : Int) < 256 := by have := UInt8.toNat_lt c; omega
          have hc0 : (0 : Int) ≤ (c.toNat : Int) := by omega
          generalize hcc : (c.toNat : Int) = x at HA2 h256 hc0
          by_cases q1 : 97 ≤ x
          · by_cases q2 : x ≤ 122
            · have hok : (s.data.toList.drop (j + 1)).all nmC = r := by have h := HA2.out; rw [decide_eq_true q1, decide_eq_true q2] at h; simpa using h
              have HOk := Aside0.mk hok
              clear HA2 hok
              go_wp2_with fail
              go_roundg kq1
              case measure => have := HJ.out; omega
              case rel => exact ⟨j + 1, by go_num, ⟨by have := HJ.out; omega, by have := HJn.out; omega⟩, HOk, rfl⟩
            · have q3 : 48 ≤ x := by omega
              have q4 : ¬ x ≤ 57 := by omega
              obtain rfl : r = false := by have h := HA2.out; rw [decide_eq_false q2, decide_eq_false q4] at h; simpa using h.symm
              clear HA2
              go_wp2_with fail
              go_ret
              exact ⟨rfl, rfl⟩
          · by_cases q3 : 48 ≤ x
            · by_cases q4 : x ≤ 57
              · have hok : (s.data.toList.drop (j + 1)).all nmC = r := by have h := HA2.out; rw [decide_eq_true q3, decide_eq_true q4] at h; simpa using h
                have HOk := Aside0.mk hok
                clear HA2 hok
                go_wp2_with fail
                go_roundg kq1
                case measure => have := HJ.out; omega
                case rel => exact ⟨j + 1, by go_num, ⟨by have := HJ.out; omega, by have := HJn.out; omega⟩, HOk, rfl⟩
              · obtain rfl : r = false := by have h := HA2.out; rw [decide_eq_false q1, decide_eq_false q4] at h; simpa using h.symm
                clear HA2
                go_wp2_with fail
                go_ret
                exact ⟨rfl, rfl⟩
            · obtain rfl : r = false := by have h := HA2.out; rw [decide_eq_false q1, decide_eq_false q3] at h; simpa using h.symm
              clear HA2
              go_wp2_with fail
              go_ret
              exact ⟨rfl, rfl⟩
        · have hjn : ¬ (j : Int) < (s.size : Int) := by omega
          obtain rfl : r = true := by rw [← HA.out, List.drop_of_length_le (by rw [HL.out]; omega)]; rfl
          clear HA
          go_wp2_with fail
          go_ret
          exact ⟨rfl, rfl⟩
end Go.Proofs.Ytjehbnhjaogfkaa.Sc
end

section
namespace Go.Proofs.Ytjehbnhjaogfkaa.Sc
open Go.RowKit Go.Lib Go.Proofs.YtjehbnhjaogfkaaW.PrintWords Go.Proofs.YtjehbnhjaogfkaaW.PrintLast Go.Proofs.YtjehbnhjaogfkaaW.PrintMore
open Go.Proofs.Ytjehbnhjaogfkaa
set_option linter.unusedVariables false
set_option linter.unusedSimpArgs false
/-- Members of which each may be, and has a name that those ahead of it don't have. -/
def ggo {α : Type} (f : α → ByteArray) (ok : α → Bool) : List α → List α → Bool
  | _, [] => true
  | p, x :: r => (nmOk (f x) && ok x) && (p.all (fun d => !decide ((f d).data.toList = (f x).data.toList)) && ggo f ok (p ++ [x]) r)
theorem ggo_at {α : Type} (f : α → ByteArray) (ok : α → Bool) (l : List α) (i : Nat) (h : i < l.length) :
    ggo f ok (l.take i) (l.drop i) = ((nmOk (f l[i]) && ok l[i]) && ((l.take i).all (fun d => !decide ((f d).data.toList = (f l[i]).data.toList)) && ggo f ok (l.take (i + 1)) (l.drop (i + 1)))) := by
  rw [List.drop_eq_getElem_cons h, List.take_succ_eq_append_getElem h]
  rfl
theorem ggo_dist {α : Type} (f : α → ByteArray) (ok : α → Bool) : ∀ (l p : List α) (seen : List (List UInt8)), (∀ x, x ∈ seen ↔ ∃ c ∈ p, (f c).data.toList = x) → ggo f ok p l = (dist seen (l.map f) && l.all ok)
  | [], _, _, _ => rfl
  | x :: r, p, seen, h => by
    have h2 : ∀ y, y ∈ (f x).data.toList :: seen ↔ ∃ c ∈ p ++ [x], (f c).data.toList = y := by
      intro y
      rw [List.mem_cons, h]
      constructor
      · rintro (rfl | ⟨c, hc, e⟩)
        · exact ⟨x, by simp, rfl⟩
        · exact ⟨c, by simp [hc], e⟩
      · rintro ⟨c, hc, e⟩
        rcases List.mem_append.1 hc with hc | hc
        · exact .inr ⟨c, hc, e⟩
        · obtain rfl := List.mem_singleton.1 hc
          exact .inl e.symm
    have ih := ggo_dist f ok r (p ++ [x]) _ h2
    have ha : p.all (fun d => !decide ((f d).data.toList = (f x).data.toList)) = !decide ((f x).data.toList ∈ seen) := by
      rw [Bool.eq_iff_iff, List.all_eq_true]
      simp only [Bool.not_eq_true', decide_eq_false_iff_not, h]
      constructor
      · rintro hh ⟨c, hc, e⟩
        exact hh c hc e
      · intro hh c hc e
        exact hh ⟨c, hc, e⟩
    rw [ggo, ih, ha, List.map_cons, dist_cons, List.all_cons]
    cases nmOk (f x) <;> cases (decide ((f x).data.toList ∈ seen)) <;> cases ok x <;> simp
/-- The document's columns, index and May. -/
def dcols (l : List Col) : Bool := ins l.length 1 32 && ggo (·.nm) colOk [] l
def dmay (t : Tb) : Bool := nmOk t.nm && (dcols t.cols && (ins t.key 1 t.cols.length && (decide (t.ixs.length ≤ 8) && ggo (·.nm) (ixOk t.cols.length) [] t.ixs)))
theorem dmay_chk (t : Tb) : dmay t = chk t := by
  have h1 := ggo_dist (·.nm) colOk t.cols [] [] (by simp)
  have h2 := ggo_dist (·.nm) (ixOk t.cols.length) t.ixs [] [] (by simp)
  unfold dmay dcols chk ck2 ck1
  rw [h1, h2]
  cases nmOk t.nm <;> cases ins t.cols.length 1 32 <;> cases ins t.key 1 t.cols.length <;> cases (decide (t.ixs.length ≤ 8)) <;> cases dist [] (t.cols.map (·.nm)) <;> cases dist [] (t.ixs.map (·.nm)) <;> cases t.cols.all colOk <;> cases t.ixs.all (ixOk t.cols.length) <;> rfl
theorem str_eqb {x y : ByteArray} {b : Bool} (h : decide (x.data.toList = y.data.toList) = b) : (x.toList == y.toList) = b := by
  rw [ByteArray.toList_eq, ByteArray.toList_eq, ← h]
  by_cases e : x.data.toList = y.data.toList
  · rw [decide_eq_true e]; exact beq_iff_eq.2 e
  · rw [decide_eq_false e]; exact beq_eq_false_iff_ne.2 e
theorem colOk_int {nm : ByteArray} {kd : Int} : colOk ⟨nm, kd⟩ = (decide (1 ≤ kd) && decide (kd ≤ 5)) := rfl
set_option maxRecDepth 100000 in
set_option maxHeartbeats 8000000 in
theorem columns_walk (W : World) (A : Option Addr) (l : List Col) (ca : Nat) (hA : kcol.C W A l.length l) (hca : l.length ≤ ca) :
    Calls Try.prog 59 #[.slice A l.length ca] W fun e w' => e = .returned (.bool (dcols l)) ∧ Below W.heap.size W w' := by
  obtain ⟨r, hr⟩ : ∃ r, dcols l = r := ⟨_, rfl⟩
  rw [hr]
  by_cases hin : ins l.length 1 32 = true
  · have hi := hin
    unfold ins at hi
    simp only [Bool.and_eq_true, decide_eq_true_eq] at hi
    have h1 : ¬ (l.length : Int) < 1 := by omega
    have h2 : ¬ (32 : Int) < (l.length : Int) := by omega
    have HA := Aside0.mk hA
    have H0 := Aside0.mk (show ggo (·.nm) colOk (l.take 0) (l.drop 0) = r by rw [← hr]; unfold dcols; rw [hin]; rfl)
    clear hA hr hin hi
    go_enter Try.func59, Try.ntmps59
    go_wp2_with fail
    go_loopg [3] (l.length + 1) (fun kq v3 w' => ∃ (i : Nat), v3 = .int .i64 (i : Int) ∧ Aside0 (i + kq = l.length + 1 ∧ i ≤ l.length) ∧ Aside0 (ggo (·.nm) colOk (l.take i) (l.drop i) = r) ∧ Aside0 (Below W.heap.size W w'))
    case atStart => exact ⟨0, rfl, ⟨by omega, Nat.zero_le _⟩, H0, ⟨Below.refl _ _⟩⟩
    case round =>
      clear H0
      obtain ⟨i, rfl, HJ, HG, HB⟩ := hrel
      by_cases hj : i < l.length
      · have hji : (i : Int) < (l.length : Int) := by omega
        obtain ⟨kq1, rfl⟩ : ∃ kq1, gk = kq1 + 1 := ⟨gk - 1, by have := HJ.out.1; omega⟩
        obtain ⟨ad, rfl, x0, x1⟩ := col_at (Kd.C_below HA.out HB.out) i hj
        have hg := HG.out
        rw [ggo_at _ _ _ _ hj] at hg
        obtain ⟨x, hx⟩ : ∃ x, l[i] = x := ⟨_, rfl⟩
        rw [hx] at x0 x1 hg
        obtain ⟨cn, ck⟩ := x
        simp only [colOk_int] at x0 x1 hg
        have y1 := far_cell x1
        have HG2 := Aside0.mk hg
        have HX := Aside0.mk (show ∀ hh : i < l.length, l[i]'hh = (⟨cn, ck⟩ : Col) from fun _ => hx)
        have HHj := Aside0.mk hj
        clear HG hg hx hj
        go_upto_region 6 with fail
        go_wp2_with fail
        refine (dnamed_walk cn wr).mono ?_
        rintro e w2 ⟨rfl, rfl⟩
        cases hN : nmOk cn with
        | false =>
          obtain rfl : r = false := by rw [← HG2.out, hN]; rfl
          clear HG2 hN
          go_wp2_with fail
          go_ret
          exact ⟨rfl, HB.out⟩
        | true =>
          by_cases k1 : 1 ≤ ck
          · by_cases k5 : ck ≤ 5
            · have k1' : ¬ ck < 1 := by omega
              have k5' : ¬ 5 < ck := by omega
              have HG3 := Aside0.mk (show (((l.take i).drop 0).all (fun d => !decide (d.nm.data.toList = cn.data.toList)) && ggo (·.nm) colOk (l.take (i + 1)) (l.drop (i + 1))) = r by rw [← HG2.out, hN, decide_eq_true k1, decide_eq_true k5]; rfl)
              clear HG2 hN k1 k5
              go_wp2_with fail
              clear k1' k5'
              have x0s := x0
              clear x1 y1
              go_loopg [4] (i + 1) (fun kr v4 w' => ∃ (k : Nat), v4 = .int .i64 (k : Int) ∧ Aside0 (k + kr = i + 1 ∧ k ≤ i) ∧ Aside0 ((((l.take i).drop k).all (fun d => !decide (d.nm.data.toList = cn.data.toList)) && ggo (·.nm) colOk (l.take (i + 1)) (l.drop (i + 1))) = r) ∧ Aside0 (Below W.heap.size W w'))
              case atStart => exact ⟨0, rfl, ⟨by omega, Nat.zero_le _⟩, HG3, HB⟩
              case round =>
                clear HG3 x0 x0s HB
                obtain ⟨k, rfl, HK, HG4, HB⟩ := hrel
                by_cases hk : k < i
                · have hki : (k : Int) < (i : Int) := by omega
                  have hkl : k < l.length := by have := HHj.out; omega
                  have hkli : (k : Int) < (l.length : Int) := by omega
                  obtain ⟨kq2, rfl⟩ : ∃ kq2, gk = kq2 + 1 := ⟨gk - 1, by have := HK.out.1; omega⟩
                  obtain ⟨ad', e, x0, xj⟩ := col_at (Kd.C_below HA.out HB.out) i HHj.out
                  obtain rfl := Option.some.inj e
                  rw [HX.out HHj.out] at x0
                  clear xj
                  obtain ⟨ad', e, z0, zj⟩ := col_at (Kd.C_below HA.out HB.out) k hkl
                  obtain rfl := Option.some.inj e
                  obtain ⟨zn, hzn⟩ : ∃ zn, l[k].nm = zn := ⟨_, rfl⟩
                  have hg := HG4.out
                  have hkt : k < (l.take i).length := by rw [List.length_take]; omega
                  rw [List.drop_eq_getElem_cons hkt, List.all_cons, List.getElem_take, hzn] at hg
                  rw [hzn] at z0
                  have HG5 := Aside0.mk hg
                  have HHk := Aside0.mk hk
                  clear e hg hkt HG4 hzn hk zj hkl
                  simp only at x0
                  cases hd : decide (zn.data.toList = cn.data.toList) with
                  | true =>
                    have hs := str_eqb hd
                    obtain rfl : r = false := by rw [← HG5.out, hd]; rfl
                    clear HG5 hd
                    go_upto_region 11 with fail
                    go_quiet (fail)
                    go_wp2_with fail
                    go_ret
                    exact ⟨rfl, pw_below_drewN HB.out _⟩
                  | false =>
                    have hs := str_eqb hd
                    have HG6 := Aside0.mk (show (((l.take i).drop (k + 1)).all (fun d => !decide (d.nm.data.toList = cn.data.toList)) && ggo (·.nm) colOk (l.take (i + 1)) (l.drop (i + 1))) = r by rw [← HG5.out, hd]; rfl)
                    clear HG5 hd
                    go_upto_region 11 with fail
                    go_quiet (fail)
                    go_wp2_with fail
                    go_roundg kq2
                    case measure => have := HK.out; omega
                    case rel => exact ⟨k + 1, by go_num, ⟨by have := HK.out; omega, by have := HHk.out; omega⟩, HG6, ⟨pw_below_drewN HB.out _⟩⟩
                · have hki : ¬ (k : Int) < (i : Int) := by omega
                  have HG7 := Aside0.mk (show ggo (·.nm) colOk (l.take (i + 1)) (l.drop (i + 1)) = r by rw [← HG4.out, show (l.take i).drop k = [] from List.drop_of_length_le (by rw [List.length_take]; omega)]; rfl)
                  clear HG4 hk
                  go_wp2_with fail
                  go_roundg kq1
                  case measure => have := HJ.out; omega
                  case rel => exact ⟨i + 1, by go_num, ⟨by have := HJ.out; omega, by have := HHj.out; omega⟩, HG7, HB⟩
            · have k1' : ¬ ck < 1 := by omega
              have k5' : 5 < ck := by omega
              obtain rfl : r = false := by rw [← HG2.out, decide_eq_false k5, Bool.and_false, Bool.and_false]; rfl
              clear HG2 hN k1 k5
              go_wp2_with fail
              go_ret
              exact ⟨rfl, HB.out⟩
          · have k1' : ck < 1 := by omega
            obtain rfl : r = false := by rw [← HG2.out, decide_eq_false k1, Bool.false_and, Bool.and_false]; rfl
            clear HG2 hN k1
            go_wp2_with fail
            go_ret
            exact ⟨rfl, HB.out⟩
      · have hji : ¬ (i : Int) < (l.length : Int) := by omega
        obtain rfl : r = true := by rw [← HG.out, List.drop_of_length_le (by omega)]; rfl
        clear HG
        go_wp2_with fail
        go_ret
        exact ⟨rfl, HB.out⟩
  · obtain rfl : r = false := by rw [← hr]; unfold dcols; rw [Bool.eq_false_iff.2 hin]; rfl
    unfold ins at hin
    simp only [Bool.and_eq_true, decide_eq_true_eq] at hin
    clear hr
    by_cases h1 : (l.length : Int) < 1
    · clear hin
      go_enter Try.func59, Try.ntmps59
      go_wp2_with fail
      go_ret
      exact ⟨rfl, Below.refl _ _⟩
    · have h2 : (32 : Int) < (l.length : Int) := by omega
      clear hin
      go_enter Try.func59, Try.ntmps59
      go_wp2_with fail
      go_ret
      exact ⟨rfl, Below.refl _ _⟩
end Go.Proofs.Ytjehbnhjaogfkaa.Sc
end

section
namespace Go.Proofs.Ytjehbnhjaogfkaa.Sc
open Go.RowKit Go.Lib Go.Proofs.YtjehbnhjaogfkaaW.PrintWords Go.Proofs.YtjehbnhjaogfkaaW.PrintLast Go.Proofs.YtjehbnhjaogfkaaW.PrintMore
open Go.Proofs.Ytjehbnhjaogfkaa
set_option linter.unusedVariables false
set_option linter.unusedSimpArgs false
theorem ins_many (n many : Int) : ins n 0 (many - 1) = (!decide (n < 0) && !decide (many ≤ n)) := by
  unfold ins
  rw [Bool.eq_iff_iff]
  simp
  omega
set_option maxRecDepth 100000 in
set_option maxHeartbeats 8000000 in
theorem index_ref (W : World) (nm : ByteArray) (xs : List Int) (uq : Bool) (many : Int) (C : Option Addr) (e9 : Nat) (hC : (Kd.int .i64).C W C xs.length xs) (hle : xs.length ≤ e9) :
    Calls Try.prog 60 #[.agg #[.string nm, .slice C xs.length e9, .bool uq], .int .i64 many] W fun e w' => e = .returned (.bool (nmOk nm && ixOk many ⟨nm, xs, uq⟩)) ∧ Below W.heap.size W w' := by
  obtain ⟨r, hr⟩ : ∃ r, (nmOk nm && ixOk many ⟨nm, xs, uq⟩) = r := ⟨_, rfl⟩
  rw [hr]
  obtain ⟨g, hg⟩ : ∃ g, W.heap.size = g := ⟨_, rfl⟩
  have z0 : (W.alloc (.cells #[.string nm, .slice C xs.length e9, .bool uq] 67)).cell? ⟨g, 0, none⟩ = some (.string nm) := by rw [← hg, World.cell?_alloc_new]; rfl
  have z1 : (W.alloc (.cells #[.string nm, .slice C xs.length e9, .bool uq] 67)).cell? ⟨g, 1, none⟩ = some (.slice C xs.length e9) := by rw [← hg, World.cell?_alloc_new]; rfl
  have HB := Aside0.mk (below_alloc (Below.refl W.heap.size W) (.cells #[.string nm, .slice C xs.length e9, .bool uq] 67))
  have HC := Aside0.mk (Kd.C_below hC (below_alloc (Below.refl W.heap.size W) (.cells #[.string nm, .slice C xs.length e9, .bool uq] 67)))
  have HR := Aside0.mk hr
  have Z0 := Aside0.mk z0
  have Z1 := Aside0.mk z1
  clear hC hr z0 z1
  go_enter Try.func60, Try.ntmps60
  go_upto_region 1 with fail
  clear hg
  generalize (W.alloc (.cells #[.string nm, .slice C xs.length e9, .bool uq] 67)) = w1 at *
  have z0 := Z0.out
  go_wp2_with fail
  refine (dnamed_walk nm w1).mono ?_
  rintro e w2 ⟨rfl, rfl⟩
  have z1 := Z1.out
  cases hN : nmOk nm with
  | false =>
    obtain rfl : r = false := by rw [← HR.out, hN]; rfl
    clear HR hN
    go_wp2_with fail
    go_ret
    exact ⟨rfl, HB.out⟩
  | true =>
    have hr := HR.out
    rw [hN, Bool.true_and] at hr
    unfold ixOk at hr
    clear HR hN z0
    by_cases h1 : (xs.length : Int) < 1
    · obtain rfl : r = false := by rw [← hr]; unfold ins; rw [decide_eq_false (show ¬ (1 : Int) ≤ (xs.length : Int) by omega)]; rfl
      clear hr
      go_wp2_with fail
      go_ret
      exact ⟨rfl, HB.out⟩
    · by_cases h2 : (32 : Int) < (xs.length : Int)
      · obtain rfl : r = false := by rw [← hr]; unfold ins; rw [decide_eq_false (show ¬ (xs.length : Int) ≤ 32 by omega), Bool.and_false]; rfl
        clear hr
        go_wp2_with fail
        go_ret
        exact ⟨rfl, HB.out⟩
      · have H0 := Aside0.mk (show ((xs.drop 0).all fun n => ins n 0 (many - 1)) = r by rw [← hr]; unfold ins; simp only; rw [decide_eq_true (show (1 : Int) ≤ (xs.length : Int) by omega), decide_eq_true (show (xs.length : Int) ≤ 32 by omega)]; rfl)
        clear hr
        go_wp2_with fail
        go_loopg [5] (xs.length + 1) (fun kq v5 w' => ∃ (j : Nat), v5 = .int .i64 (j : Int) ∧ Aside0 (j + kq = xs.length + 1 ∧ j ≤ xs.length) ∧ Aside0 (((xs.drop j).all fun n => ins n 0 (many - 1)) = r) ∧ w1 = w')
        case atStart => exact ⟨0, rfl, ⟨by omega, Nat.zero_le _⟩, H0, rfl⟩
        case round =>
          clear H0
          obtain ⟨j, rfl, HJ, HA, rfl⟩ := hrel
          by_cases hj : j < xs.length
          · have hji : (j : Int) < (xs.length : Int) := by omega
            obtain ⟨kq1, rfl⟩ : ∃ kq1, gk = kq1 + 1 := ⟨gk - 1, by have := HJ.out.1; omega⟩
            obtain ⟨ad, rfl, x0⟩ := int_at HC.out j hj
            have ha := HA.out
            obtain ⟨n, hn⟩ : ∃ n, xs[j] = n := ⟨_, rfl⟩
            rw [List.drop_eq_getElem_cons hj, List.all_cons, hn, ins_many] at ha
            rw [hn] at x0
            have HA2 := Aside0.mk ha
            have HHj := Aside0.mk hj
            clear HA ha hn hj
            by_cases k1 : n < 0
            · obtain rfl : r = false := by rw [← HA2.out, decide_eq_true k1]; rfl
              clear HA2
              go_wp2_with fail
              go_ret
              exact ⟨rfl, HB.out⟩
            · by_cases k2 : many ≤ n
              · obtain rfl : r = false := by rw [← HA2.out, decide_eq_true k2, Bool.not_true, Bool.and_false]; rfl
                clear HA2
                go_wp2_with fail
                go_ret
                exact ⟨rfl, HB.out⟩
              · have HA3 := Aside0.mk (show ((xs.drop (j + 1)).all fun n => ins n 0 (many - 1)) = r by rw [← HA2.out, decide_eq_false k1, decide_eq_false k2]; rfl)
                clear HA2
                go_wp2_with fail
                go_roundg kq1
                case measure => have := HJ.out; omega
                case rel => exact ⟨j + 1, by go_num, ⟨by have := HJ.out; omega, by have := HHj.out; omega⟩, HA3, rfl⟩
          · have hji : ¬ (j : Int) < (xs.length : Int) := by omega
            obtain rfl : r = true := by rw [← HA.out, List.drop_of_length_le (by omega)]; rfl
            clear HA
            go_wp2_with fail
            go_ret
            exact ⟨rfl, HB.out⟩
end Go.Proofs.Ytjehbnhjaogfkaa.Sc
end

section
namespace Go.Proofs.Ytjehbnhjaogfkaa.Sc
open Go.RowKit Go.Lib Go.Maps Go.WideAt Go.WideShapes Go.Proofs.YtjehbnhjaogfkaaW.PrintWords Go.Proofs.YtjehbnhjaogfkaaW.PrintLast Go.Proofs.YtjehbnhjaogfkaaW.PrintMore
open Go.Proofs.Ytjehbnhjaogfkaa
set_option linter.unusedVariables false
set_option linter.unusedSimpArgs false
def T34_6 : Bool × List (List Nat × List Nat) := (true, [([], []), ([0], [0]), ([], []), ([1, 2], [1, 2]), ([3], [3]), ([], []), ([5], [5]), ([6], [6]), ([4, 7], [4, 7]), ([8], [8])])
theorem t34_6 : Go.Proofs.YtjehbnhjaogfkaaW.PrintLast.rtab .any (opsOf Try.f34 6) = T34_6 := by kernel_rfl
theorem b34_6 : waitsOk T34_6.2 [0, 1, 0, 7, 15, 0, 32, 96, 255, 511] = true := by kernel_rfl
set_option maxRecDepth 100000 in
set_option maxHeartbeats 8000000 in
/-- The document's May. -/
theorem may_walk (W : World) (t : Tb) (A : Option Addr) (ca : Nat) (B : Option Addr) (cb : Nat) (hA : kcol.C W A t.cols.length t.cols) (hca : t.cols.length ≤ ca) (hB : kix.C W B t.ixs.length t.ixs) (hcb : t.ixs.length ≤ cb) :
    Calls Try.prog 34 #[.agg #[.string t.nm, .slice A t.cols.length ca, .int .i64 t.key, .slice B t.ixs.length cb]] W fun e w' => e = .returned (.bool (chk t)) ∧ Below W.heap.size W w' := by
  obtain ⟨nm, cols, key, ixs⟩ := t
  simp only at hA hca hB hcb ⊢
  obtain ⟨r, hr⟩ : ∃ r, chk ⟨nm, cols, key, ixs⟩ = r := ⟨_, rfl⟩
  rw [hr]
  rw [← dmay_chk] at hr
  unfold dmay at hr
  simp only at hr
  obtain ⟨g, hg⟩ : ∃ g, W.heap.size = g := ⟨_, rfl⟩
  have HA := Aside0.mk hA
  have HB := Aside0.mk hB
  have HBx := Aside0.mk (show TbBox (W.alloc (.cells #[.string nm, .slice A cols.length ca, .int .i64 key, .slice B ixs.length cb] 30)) g (.string nm) (.slice A cols.length ca) (.int .i64 key) (.slice B ixs.length cb) from hg ▸ tbBox_made W _ _ _ _ _)
  have HW1 := Aside0.mk (below_alloc (Below.refl W.heap.size W) (.cells #[.string nm, .slice A cols.length ca, .int .i64 key, .slice B ixs.length cb] 30))
  have HR := Aside0.mk hr
  clear hA hB hr
  go_enter Try.func34, Try.ntmps34
  go_upto_region 1 with fail
  clear hg
  generalize (W.alloc (.cells #[.string nm, .slice A cols.length ca, .int .i64 key, .slice B ixs.length cb] 30)) = w1 at *
  have p0 := HBx.out.c0
  go_wp2_with fail
  refine (dnamed_walk nm w1).mono ?_
  rintro e w2 ⟨rfl, rfl⟩
  clear p0
  cases hN : nmOk nm with
  | false =>
    obtain rfl : r = false := by rw [← HR.out, hN]; rfl
    clear HR hN
    go_wp2_with fail
    go_ret
    exact ⟨rfl, HW1.out⟩
  | true =>
    have hr := HR.out
    rw [hN, Bool.true_and] at hr
    have HR2 := Aside0.mk hr
    have p1 := HBx.out.c1
    clear HR hN hr
    go_wp2_with fail
    refine (columns_walk w1 A cols ca (Kd.C_below HA.out HW1.out) hca).mono ?_
    rintro e w2 ⟨rfl, hb2⟩
    have HBX := Aside0.mk (HBx.out.keep hb2 HBx.out.lt)
    have HW2 := Aside0.mk (step HW1.out hb2)
    have p1 := HBX.out.c1
    have p2 := HBX.out.c2
    have p3 := HBX.out.c3
    clear HBx HW1 hb2 p1
    cases hD : dcols cols with
    | false =>
      obtain rfl : r = false := by rw [← HR2.out, hD]; rfl
      clear HR2 hD
      go_wp2_with fail
      go_ret
      exact ⟨rfl, HW2.out⟩
    | true =>
      have hr := HR2.out
      rw [hD, Bool.true_and] at hr
      have HR3 := Aside0.mk hr
      have p1 := HBX.out.c1
      clear HR2 hD hr
      by_cases k1 : 1 ≤ key
      · by_cases k2 : key ≤ (cols.length : Int)
        · have k1' : ¬ key < 1 := by omega
          have k2' : ¬ (cols.length : Int) < key := by omega
          by_cases k8 : ixs.length ≤ 8
          · have k8' : ¬ (8 : Int) < (ixs.length : Int) := by omega
            have H0 := Aside0.mk (show ggo (·.nm) (ixOk cols.length) (ixs.take 0) (ixs.drop 0) = r by rw [← HR3.out]; unfold ins; rw [decide_eq_true k1, decide_eq_true k2, decide_eq_true k8]; rfl)
            clear HR3 k1 k2 k8
            go_wp2_with fail
            clear p1 p2 k1' k2' k8'
            go_loopg [3] (ixs.length + 1) (fun kq v3 w' => ∃ (i : Nat), v3 = .int .i64 (i : Int) ∧ Aside0 (i + kq = ixs.length + 1 ∧ i ≤ ixs.length) ∧ Aside0 (ggo (·.nm) (ixOk cols.length) (ixs.take i) (ixs.drop i) = r) ∧ Aside0 (Below w2.heap.size w2 w'))
            case atStart => exact ⟨0, rfl, ⟨by omega, Nat.zero_le _⟩, H0, ⟨Below.refl _ _⟩⟩
            case round =>
              clear H0 p3
              obtain ⟨i, rfl, HJ, HG, HBr⟩ := hrel
              have p1 := (HBX.out.keep HBr.out HBX.out.lt).c1
              have p3 := (HBX.out.keep HBr.out HBX.out.lt).c3
              by_cases hj : i < ixs.length
              · have hji : (i : Int) < (ixs.length : Int) := by omega
                obtain ⟨kq1, rfl⟩ : ∃ kq1, gk = kq1 + 1 := ⟨gk - 1, by have := HJ.out.1; omega⟩
                obtain ⟨ad, C, e9, rfl, x0, x1, x2, hle, hC⟩ := ix_at (Kd.C_below HB.out (step HW2.out HBr.out)) i hj
                have hg := HG.out
                rw [ggo_at _ _ _ _ hj] at hg
                obtain ⟨x, hx⟩ : ∃ x, ixs[i] = x := ⟨_, rfl⟩
                rw [hx] at x0 x1 x2 hC hle hg
                obtain ⟨xn, xs, uq⟩ := x
                simp only at x0 x1 x2 hC hle hg
                have y1 := far_cell x1
                have y2 := far_cell x2
                obtain ⟨o1, ho1⟩ : ∃ o1, (nmOk xn && ixOk cols.length ⟨xn, xs, uq⟩) = o1 := ⟨_, rfl⟩
                rw [ho1] at hg
                have HO1 := Aside0.mk ho1
                have HG2 := Aside0.mk hg
                have HX := Aside0.mk (show ∀ hh : i < ixs.length, ixs[i]'hh = (⟨xn, xs, uq⟩ : Ix) from fun _ => hx)
                have HHj := Aside0.mk hj
                have HC := Aside0.mk hC
                have HLe := Aside0.mk hle
                clear HG hg hx hj hC hle ho1
                go_upto_region 6 with fail
                refine start_ (n := 10) (S := fun w' => w'.cell? ⟨g, 1, none⟩ = some (.slice A cols.length ca) ∧ w'.cell? ⟨g, 3, none⟩ = some (.slice (some ad) ixs.length cb) ∧ w'.cell? (ad.add (i * 3)) = some (.string xn) ∧ w'.cell? ⟨(ad.add (i * 3)).block, (ad.add (i * 3)).off + 1, none⟩ = some (.slice C xs.length e9) ∧ w'.cell? ⟨(ad.add (i * 3)).block, (ad.add (i * 3)).off + 2, none⟩ = some (.bool uq)) (ds := []) #[false, false, false, false, false, false, false, false, false, false] (by kernel_rfl) rfl rfl ⟨p1, p3, x0, y1, y2⟩ (fun hHeld => ?_)
                refine with_tabW t34_6 b34_6 (fun HT_ HW_ => ?_)
                have HBd := Aside0.mk (below_drew HBr.out)
                have HCd := Aside0.mk (Kd.C_drew HC.out)
                have HK := Aside0.mk (show wr.drew.cell? ⟨g, 1, none⟩ = some (.slice A cols.length ca) ∧ wr.drew.cell? ⟨g, 3, none⟩ = some (.slice (some ad) ixs.length cb) ∧ wr.drew.cell? (ad.add (i * 3)) = some (.string xn) ∧ wr.drew.cell? ⟨(ad.add (i * 3)).block, (ad.add (i * 3)).off + 1, none⟩ = some (.slice C xs.length e9) ∧ wr.drew.cell? ⟨(ad.add (i * 3)).block, (ad.add (i * 3)).off + 2, none⟩ = some (.bool uq) from ⟨p1, p3, x0, y1, y2⟩)
                clear x0 x1 x2 y1 y2 p1 p3 HBr HC
                generalize wr.drew = w4 at HBd HCd HK hHeld ⊢
                refine pure_ (i := 0) (N := some 41) (v := ?_) (a' := ?_) #[true, false, false, false, false, false, false, false, false, false] rfl rfl (any_of HT_.out (by kernel_rfl)) (fun _ _ _ h => h) (Or.inl ⟨by rfl, ?_⟩) ?_ ?_
                rotate_left
                · intro w'
                  go_simp
                  with_reducible rfl
                rotate_left
                · simp only [Act.put, List.setIfInBounds_toArray, List.set_cons_zero, List.set_cons_succ, i64_w, i32_w]
                  rfl
                refine pure_ (i := 2) (N := some 43) (v := ?_) (a' := ?_) #[true, false, true, false, false, false, false, false, false, false] rfl rfl (any_of HT_.out (by kernel_rfl)) (fun _ _ _ h => h) (Or.inl ⟨by rfl, ?_⟩) ?_ ?_
                rotate_left
                · intro w'
                  go_simp
                  with_reducible rfl
                rotate_left
                · simp only [Act.put, List.setIfInBounds_toArray, List.set_cons_zero, List.set_cons_succ, i64_w, i32_w]
                  rfl
                refine pure_ (i := 5) (N := some 46) (v := ?_) (a' := ?_) #[true, false, true, false, false, true, false, false, false, false] rfl rfl (any_of HT_.out (by kernel_rfl)) (fun _ _ _ h => h) (Or.inl ⟨by rfl, ?_⟩) ?_ ?_
                rotate_left
                · intro w'
                  go_simp
                  with_reducible rfl
                rotate_left
                · simp only [Act.put, List.setIfInBounds_toArray, List.set_cons_zero, List.set_cons_succ, i64_w, i32_w]
                  rfl
                refine take_ (i := 1) (N := some 42) (v := ?_) (a' := ?_) #[true, true, true, false, false, true, false, false, false, false] rfl rfl (take_ofW HT_.out HW_.out (by kernel_rfl)) (fun _ _ _ h => h) (Or.inl ⟨by rfl, ?_⟩) hHeld ?_ ?_
                rotate_left
                · rintro w' ⟨s0, s1, s2, s3, s4⟩
                  go_simp
                  with_reducible rfl
                rotate_left
                · simp only [Act.put, List.setIfInBounds_toArray, List.set_cons_zero, List.set_cons_succ, i64_w, i32_w]
                  rfl
                refine pure_ (i := 3) (N := some 44) (v := ?_) (a' := ?_) #[true, true, true, true, false, true, false, false, false, false] rfl rfl (any_of HT_.out (by kernel_rfl)) (fun _ _ _ h => h) (Or.inl ⟨by rfl, ?_⟩) ?_ ?_
                rotate_left
                · intro w'
                  go_simp
                  with_reducible rfl
                rotate_left
                · simp only [Act.put, List.setIfInBounds_toArray, List.set_cons_zero, List.set_cons_succ, i64_w, i32_w]
                  rfl
                refine take_ (i := 4) (N := some 45) (v := ?_) (a' := ?_) #[true, true, true, true, true, true, false, false, false, false] rfl rfl (take_ofW HT_.out HW_.out (by kernel_rfl)) (fun _ _ _ h => h) (Or.inl ⟨by rfl, ?_⟩) hHeld ?_ ?_
                rotate_left
                · rintro w' ⟨s0, s1, s2, s3, s4⟩
                  go_simp
                  with_reducible rfl
                rotate_left
                · simp only [Act.put, List.setIfInBounds_toArray, List.set_cons_zero, List.set_cons_succ, i64_w, i32_w]
                  rfl
                refine take_ (i := 6) (N := some 47) (v := ?_) (a' := ?_) #[true, true, true, true, true, true, true, false, false, false] rfl rfl (take_ofW HT_.out HW_.out (by kernel_rfl)) (fun _ _ _ h => h) (Or.inl ⟨by rfl, ?_⟩) hHeld ?_ ?_
                rotate_left
                · rintro w' ⟨s0, s1, s2, s3, s4⟩
                  go_simp
                  with_reducible rfl
                rotate_left
                · simp only [Act.put, List.setIfInBounds_toArray, List.set_cons_zero, List.set_cons_succ, i64_w, i32_w]
                  rfl
                refine pure_ (i := 7) (N := some 48) (v := ?_) (a' := ?_) #[true, true, true, true, true, true, true, true, false, false] rfl rfl (any_of HT_.out (by kernel_rfl)) (fun _ _ _ h => h) (Or.inl ⟨by rfl, ?_⟩) ?_ ?_
                rotate_left
                · intro w'
                  go_simp
                  with_reducible rfl
                rotate_left
                · simp only [Act.put, List.setIfInBounds_toArray, List.set_cons_zero, List.set_cons_succ, i64_w, i32_w]
                  rfl
                refine one_ (i := 8) (N := some 49) #[true, true, true, true, true, true, true, true, true, false] rfl rfl (one_of HT_.out (by kernel_rfl)) (by decide) (fun K hK => ?_)
                refine goes_ Try.func60 (by kernel_rfl) rfl #[.agg #[.string xn, .slice C xs.length e9, .bool uq], .int .i64 (cols.length : Int)] (by rfl) rfl rfl (by (try simp only [List.map_toArray, List.map_cons, List.map_nil]); first | done | rfl) ?_
                refine (index_ref w4 xn xs uq cols.length C e9 HCd.out HLe.out).mono ?_
                rw [HO1.out]
                rintro e w5 ⟨rfl, hb5⟩
                refine ⟨_, rfl, ?_⟩
                have HBs := Aside0.mk (step HBd.out hb5)
                have HK5 := Aside0.mk (show w5.cell? ⟨g, 1, none⟩ = some (.slice A cols.length ca) ∧ w5.cell? ⟨g, 3, none⟩ = some (.slice (some ad) ixs.length cb) ∧ w5.cell? (ad.add (i * 3)) = some (.string xn) ∧ w5.cell? ⟨(ad.add (i * 3)).block, (ad.add (i * 3)).off + 1, none⟩ = some (.slice C xs.length e9) ∧ w5.cell? ⟨(ad.add (i * 3)).block, (ad.add (i * 3)).off + 2, none⟩ = some (.bool uq) from
                  ⟨cell_keep hb5 (World.block_lt_of_cell? _ _ HK.out.1) HK.out.1, cell_keep hb5 (World.block_lt_of_cell? _ _ HK.out.2.1) HK.out.2.1, cell_keep hb5 (World.block_lt_of_cell? _ _ HK.out.2.2.1) HK.out.2.2.1, cell_keep hb5 (World.block_lt_of_cell? _ _ HK.out.2.2.2.1) HK.out.2.2.2.1, cell_keep hb5 (World.block_lt_of_cell? _ _ HK.out.2.2.2.2) HK.out.2.2.2.2⟩)
                clear hb5
                refine hK.out _ _ HK5.out (fun hHeld => ?_)
                clear hK K
                refine norm_ (a' := ?_) ?_ ?_
                rotate_left
                · show Act.put _ (some 49) _ = _
                  simp only [Act.put, List.setIfInBounds_toArray, List.set_cons_zero, List.set_cons_succ, i64_w, i32_w]
                  rfl
                refine pure_ (i := 9) (N := some 50) (v := ?_) (a' := ?_) #[true, true, true, true, true, true, true, true, true, true] rfl rfl (any_of HT_.out (by kernel_rfl)) (fun _ _ _ h => h) (Or.inl ⟨by rfl, ?_⟩) ?_ ?_
                rotate_left
                · intro w'
                  go_simp
                  with_reducible rfl
                rotate_left
                · simp only [Act.put, List.setIfInBounds_toArray, List.set_cons_zero, List.set_cons_succ, i64_w, i32_w]
                  rfl
                refine done_ (done_of HT_.out (by kernel_rfl)) ?_
                clear HBd HCd HK HK5
                cases o1 with
                | false =>
                  obtain rfl : r = false := HG2.out.symm
                  clear HG2
                  go_wp2_with fail
                  go_ret
                  exact ⟨rfl, step HW2.out HBs.out⟩
                | true =>
                  have HG3 := Aside0.mk (show (((ixs.take i).drop 0).all (fun d => !decide (d.nm.data.toList = xn.data.toList)) && ggo (·.nm) (ixOk cols.length) (ixs.take (i + 1)) (ixs.drop (i + 1))) = r from HG2.out)
                  clear HG2
                  go_wp2_with fail
                  go_loopg [4] (i + 1) (fun kr v4 w' => ∃ (k : Nat), v4 = .int .i64 (k : Int) ∧ Aside0 (k + kr = i + 1 ∧ k ≤ i) ∧ Aside0 ((((ixs.take i).drop k).all (fun d => !decide (d.nm.data.toList = xn.data.toList)) && ggo (·.nm) (ixOk cols.length) (ixs.take (i + 1)) (ixs.drop (i + 1))) = r) ∧ Aside0 (Below w2.heap.size w2 w'))
                  case atStart => exact ⟨0, rfl, ⟨by omega, Nat.zero_le _⟩, HG3, HBs⟩
                  case round =>
                    clear HG3 HBs HO1
                    obtain ⟨k, rfl, HK, HG4, HBr⟩ := hrel
                    by_cases hk : k < i
                    · have hki : (k : Int) < (i : Int) := by omega
                      have hkl : k < ixs.length := by have := HHj.out; omega
                      have hkli : (k : Int) < (ixs.length : Int) := by omega
                      obtain ⟨kq2, rfl⟩ : ∃ kq2, gk = kq2 + 1 := ⟨gk - 1, by have := HK.out.1; omega⟩
                      have p3 := (HBX.out.keep HBr.out HBX.out.lt).c3
                      obtain ⟨ad', C1, e1, e, x0, x1, x2, _, _⟩ := ix_at (Kd.C_below HB.out (step HW2.out HBr.out)) i HHj.out
                      obtain rfl := Option.some.inj e
                      clear x1 x2
                      rw [HX.out HHj.out] at x0
                      obtain ⟨zn, hzn⟩ : ∃ zn, (ixs[k]'hkl).nm = zn := ⟨_, rfl⟩
                      have z0 : wr.cell? (ad.add (k * 3)) = some (.string zn) := by
                        obtain ⟨ad', C1, e1, e, z0, x1, x2, _, _⟩ := ix_at (Kd.C_below HB.out (step HW2.out HBr.out)) k hkl
                        obtain rfl := Option.some.inj e
                        rw [← hzn]
                        exact z0
                      have hg := HG4.out
                      have hkt : k < (ixs.take i).length := by rw [List.length_take]; omega
                      rw [List.drop_eq_getElem_cons hkt, List.all_cons, List.getElem_take, hzn] at hg
                      have HG5 := Aside0.mk hg
                      have HHk := Aside0.mk hk
                      clear e hg hkt HG4 hzn hk
                      simp only at x0
                      cases hd : decide (zn.data.toList = xn.data.toList) with
                      | true =>
                        have hs := str_eqb hd
                        obtain rfl : r = false := by rw [← HG5.out, hd]; rfl
                        clear HG5 hd
                        go_upto_region 11 with fail
                        go_quiet (fail)
                        go_wp2_with fail
                        go_ret
                        exact ⟨rfl, pw_below_drewN (step HW2.out HBr.out) _⟩
                      | false =>
                        have hs := str_eqb hd
                        have HG6 := Aside0.mk (show (((ixs.take i).drop (k + 1)).all (fun d => !decide (d.nm.data.toList = xn.data.toList)) && ggo (·.nm) (ixOk cols.length) (ixs.take (i + 1)) (ixs.drop (i + 1))) = r by rw [← HG5.out, hd]; rfl)
                        clear HG5 hd
                        go_upto_region 11 with fail
                        go_quiet (fail)
                        go_wp2_with fail
                        go_roundg kq2
                        case measure => have := HK.out; omega
                        case rel => exact ⟨k + 1, by go_num, ⟨by have := HK.out; omega, by have := HHk.out; omega⟩, HG6, ⟨pw_below_drewN HBr.out _⟩⟩
                    · have hki : ¬ (k : Int) < (i : Int) := by omega
                      have HG7 := Aside0.mk (show ggo (·.nm) (ixOk cols.length) (ixs.take (i + 1)) (ixs.drop (i + 1)) = r by rw [← HG4.out, show (ixs.take i).drop k = [] from List.drop_of_length_le (by rw [List.length_take]; omega)]; rfl)
                      clear HG4 hk
                      go_wp2_with fail
                      go_roundg kq1
                      case measure => have := HJ.out; omega
                      case rel => exact ⟨i + 1, by go_num, ⟨by have := HJ.out; omega, by have := HHj.out; omega⟩, HG7, HBr⟩
              · have hji : ¬ (i : Int) < (ixs.length : Int) := by omega
                obtain rfl : r = true := by rw [← HG.out, List.drop_of_length_le (by omega)]; rfl
                clear HG
                go_wp2_with fail
                go_ret
                exact ⟨rfl, step HW2.out HBr.out⟩
          · have k8' : (8 : Int) < (ixs.length : Int) := by omega
            obtain rfl : r = false := by rw [← HR3.out, decide_eq_false k8, Bool.false_and, Bool.and_false]
            clear HR3 k1 k2 k8
            go_wp2_with fail
            go_ret
            exact ⟨rfl, HW2.out⟩
        · have k1' : ¬ key < 1 := by omega
          have k2' : (cols.length : Int) < key := by omega
          obtain rfl : r = false := by rw [← HR3.out]; unfold ins; rw [decide_eq_false k2, Bool.and_false]; rfl
          clear HR3 k1 k2
          go_wp2_with fail
          go_ret
          exact ⟨rfl, HW2.out⟩
      · have k1' : key < 1 := by omega
        obtain rfl : r = false := by rw [← HR3.out]; unfold ins; rw [decide_eq_false k1]; rfl
        clear HR3 k1
        go_wp2_with fail
        go_ret
        exact ⟨rfl, HW2.out⟩
end Go.Proofs.Ytjehbnhjaogfkaa.Sc
end
