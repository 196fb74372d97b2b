import Derived.Test.YtmfbmagbpceomaaWireBad2
namespace Go.Proofs.Ytmfbmagbpceomaa.Wire
open Go.RowKit Go.Proofs.YtmfbmagbpceomaaW.PrintWords Go.Proofs.YtmfbmagbpceomaaW.PrintLast Go.Proofs.YtmfbmagbpceomaaW.PrintMore
set_option linter.unusedVariables false
set_option linter.unusedSimpArgs false
def RefPost (w0 w : World) (g : Nat) (r : List ByteArray × Int × List Int × Bool) (e : Ending) (w' : World) : Prop :=
  ∃ v X, e = .returned (.tuple #[v, .int .i64 r.2.1]) ∧ Kd.R Kd.string 9 w' w.heap.size (fun _ => True) v r.1 ∧ w'.heap[g]? = some (.cells #[.string X, .bool r.2.2.2] 55 (0, 0)) ∧ bytesOf X = r.2.2.1 ∧ Below w0.heap.size w0 w' ∧ KeepBut w w' g none
theorem bt_rd (s : ByteArray) (i : Nat) (h : i < s.size) : ∃ b : Int, 0 ≤ b ∧ b < 256 ∧ rd (bytesOf s) (i : Nat) = b ∧ ∀ h' : i < s.size, ((s[i]'h').toNat : Int) = b := by
  refine ⟨bt s (i : Nat), (bt_range s _).1, by have := (bt_range s (i : Nat)).2; omega, rd_bytesOf s _, fun h' => ?_⟩
  have := bt_at s (i : Nat) (by simpa using h)
  simpa using this
theorem bytesOf_drop (s : ByteArray) (n : Nat) (h : n ≤ s.size) : bytesOf (s.extract n s.size) = (bytesOf s).drop n := by
  unfold bytesOf
  rw [ByteArray.data_extract]
  simp only [Array.toList_extract, List.extract_eq_take_drop, List.map_take, List.map_drop]
  rw [List.take_of_length_le (by simp)]
theorem str_cut (s : ByteArray) (a l : Nat) (h : a + l ≤ s.size) : strOfNums (((bytesOf s).drop a).take l) = s.extract a (a + l) := by
  have e : ((bytesOf s).drop a).take l = bytesOf (s.extract a (a + l)) := by
    unfold bytesOf
    rw [ByteArray.data_extract]
    simp only [Array.toList_extract, List.extract_eq_take_drop, List.map_take, List.map_drop]
    congr 1; omega
  rw [e, strOfNums_bytesOf]
theorem R_far55 {W : World} {base g : Nat} {cs : Array Value} {v : Value} {xs : List ByteArray} (h : Kd.R Kd.string 9 W base (fun _ => True) v xs) (hg : W.heap[g]? = some (.cells cs 55 (0, 0))) (j : Nat) (u : Value) : Kd.R Kd.string 9 (W.setCell ⟨g, j, none⟩ u) base (fun _ => True) v xs :=
  Kd.R_of_own (own_move (Kd.own_of_R h) fun k hk => Below.heap_setCell W ⟨g, j, none⟩ u k fun e => by
    obtain ⟨c', hc'⟩ := own_typed (Kd.own_of_R h) k hk
    change k = g at e
    rw [e, hg] at hc'; injection hc' with hc'; injection hc' with _ hc'; exact absurd hc' (by decide)) fun _ _ => trivial
theorem ref_grown {w0 w W w1 : World} {g : Nat} {cs : Array Value} {v : Value} {xs : List ByteArray} (h : W.heap[g]? = some (.cells cs 55 (0, 0)) ∧ Below w0.heap.size w0 W ∧ KeepBut w W g none) (hR : Kd.R Kd.string 9 W w.heap.size (fun _ => True) v xs) (hg : W.grownBy w1 v.ownBlock) (hb : Below w.heap.size W w1) (hw : w0.heap.size ≤ w.heap.size) :
    w1.heap[g]? = some (.cells cs 55 (0, 0)) ∧ Below w0.heap.size w0 w1 ∧ KeepBut w w1 g none := by
  have hr := Kd.own_of_R hR
  refine ⟨(hg.block g (blk_lt h.1) fun e => ?_).trans h.1, below_weaken h.2.1 hw hb, KeepBut.trans h.2.2 (KeepBut.of_grown hg g) ?_⟩
  · obtain ⟨c', hc'⟩ := own_typed hr g e.symm
    rw [h.1] at hc'; injection hc' with hc'; injection hc' with _ hc'; exact absurd hc' (by decide)
  · cases hv : v.ownBlock with
    | none => exact .inl rfl
    | some k => exact .inr ⟨k, rfl, own_base hr k hv⟩
theorem ref_true (g : Nat) (s b : ByteArray) (w0 w : World) (hS : w.heap[g]? = some (.cells #[.string s, .bool true] 55 (0, 0))) (hg : w0.heap.size ≤ g) (hB : Below w0.heap.size w0 w) :
    Calls Try.prog 35 #[.pointer (some ⟨g, 0, none⟩), .string b] w (RefPost w0 w g (feedF (bytesOf s) true b)) := by
  have c1 := blk_cell hS 1
  simp at c1
  have HS := Aside0.mk hS
  clear hS
  go_enter Try.func35, Try.ntmps35
  go_wp2
  go_ret2
  exact ⟨_, s, rfl, Kd.R_nil _ _ _ _ _, HS.out, rfl, hB, KeepBut.refl _ _ _⟩
theorem ref_long (g : Nat) (s b : ByteArray) (w0 w : World) (hS : w.heap[g]? = some (.cells #[.string s, .bool false] 55 (0, 0))) (hg : w0.heap.size ≤ g) (hB : Below w0.heap.size w0 w) (hb : 262144 < b.size) :
    Calls Try.prog 35 #[.pointer (some ⟨g, 0, none⟩), .string b] w (RefPost w0 w g (feedF (bytesOf s) false b)) := by
  have hf : feedF (bytesOf s) false b = ([], 2, bytesOf s, false) := by simp [feedF, hb]
  rw [hf]
  have c1 := blk_cell hS 1
  simp at c1
  have HS := Aside0.mk hS
  clear hS hf
  have hz : decide (262144 < (b.size : Int)) = true := decide_eq_true (by omega)
  go_enter Try.func35, Try.ntmps35
  go_wp2
  go_ret2
  exact ⟨_, s, rfl, Kd.R_nil _ _ _ _ _, HS.out, rfl, hB, KeepBut.refl _ _ _⟩
set_option maxRecDepth 100000 in
set_option maxHeartbeats 8000000 in
theorem ref_main (g : Nat) (s b : ByteArray) (w0 w : World) (hS : w.heap[g]? = some (.cells #[.string s, .bool false] 55 (0, 0))) (hg : w0.heap.size ≤ g) (hB : Below w0.heap.size w0 w) (hb : ¬ 262144 < b.size) (hs : s.size ≤ 100000) :
    Calls Try.prog 35 #[.pointer (some ⟨g, 0, none⟩), .string b] w (RefPost w0 w g (feedF (bytesOf s) false b)) := by
  have hf : feedF (bytesOf s) false b = fl ((bytesOf s ++ bytesOf b).length + 1) (bytesOf s ++ bytesOf b) [] 0 := by simp [feedF, hb]
  rw [hf]
  clear hf
  have c0 := blk_cell hS 0
  have c1 := blk_cell hS 1
  simp at c0 c1
  have HS := Aside0.mk hS
  have HB := Aside0.mk hB
  have HG := Aside0.mk hg
  clear hS hB hg
  rw [← bytesOf_append]
  obtain ⟨all, hall⟩ : ∃ all, all = s ++ b := ⟨_, rfl⟩
  have hal : all.size = s.size + b.size := by rw [hall, ByteArray.size_append]
  have hlen : all.size ≤ 400000 := by omega
  rw [← hall, bytesOf_length]
  obtain ⟨r, hr⟩ : ∃ r, fl (all.size + 1) (bytesOf all) [] 0 = r := ⟨_, rfl⟩
  rw [hr]
  have hr' := Aside0.mk hr
  have hz : decide (262144 < (b.size : Int)) = false := decide_eq_false (by omega)
  have hall2 := hall.symm
  clear hr hal hall
  go_enter Try.func35, Try.ntmps35
  go_wp2_with fail
  clear hall2 c0 c1
  go_loopg [7, 8] (all.size + 1) (fun kq v7 v8 w' => ∃ (acc : List ByteArray) (at_ : Nat), v8 = .int .i64 (at_ : Int) ∧ Aside0 (fl kq (bytesOf all) acc at_ = r ∧ at_ ≤ all.size ∧ all.size - at_ < kq ∧ acc.length ≤ at_) ∧ Aside0 (kq ≤ all.size + 1) ∧ Aside0 (Kd.R Kd.string 9 w' w.heap.size (fun _ => True) v7 acc) ∧ Aside0 (w'.heap[g]? = some (.cells #[.string s, .bool false] 55 (0, 0)) ∧ Below w0.heap.size w0 w' ∧ KeepBut w w' g none))
  case atStart => exact ⟨[], 0, rfl, ⟨hr'.out, Nat.zero_le _, by omega, Nat.zero_le _⟩, ⟨Nat.le_refl _⟩, ⟨Kd.R_nil _ _ _ _ _⟩, ⟨HS.out, HB.out, KeepBut.refl _ _ _⟩⟩
  case round =>
    obtain ⟨acc, at_, rfl, HA, HK, HR, HW⟩ := hrel
    cases gk with
    | zero => exact absurd HA.out.2.2.1 (by omega)
    | succ kq1 =>
      obtain ⟨hA1, hA2, hA3, hA4⟩ := HA.out
      have f0 := blk_frozen HW.out.1 0
      have f1 := blk_frozen HW.out.1 1
      have c0 := blk_cell HW.out.1 0
      have c1 := blk_cell HW.out.1 1
      simp only [List.getElem?_toArray, List.getElem?_cons_zero, List.getElem?_cons_succ] at c0 c1
      have H := hA1
      clear hA1 HA hr'
      unfold fl at H
      rw [bytesOf_length] at H
      by_cases q1 : all.size < at_ + 4
      · rw [if_pos q1] at H
        obtain rfl := H
        have q1' : ¬ (4 : Int) ≤ (all.size : Int) - (at_ : Int) := by omega
        have HA' := Aside0.mk hA2
        have hA2' : (at_ : Int) ≤ (all.size : Int) := by omega
        clear hA3 hA4 q1 HS
        go_wp2
        go_ret2
        exact ⟨_, all.extract at_ all.size, rfl, R_far55 HR.out HW.out.1 0 _, blk_put HW.out.1 0 _ rfl, bytesOf_drop all at_ HA'.out, below_set HW.out.2.1 HG.out, HW.out.2.2.set_ 0 _⟩
      · rw [if_neg q1] at H
        obtain ⟨b0, p0, z0, r0, i0⟩ := bt_rd all at_ (by omega)
        obtain ⟨b1, p1, z1, r1, i1⟩ := bt_rd all (at_ + 1) (by omega)
        obtain ⟨b2, p2, z2, r2, i2⟩ := bt_rd all (at_ + 2) (by omega)
        obtain ⟨b3, p3, z3, r3, i3⟩ := bt_rd all (at_ + 3) (by omega)
        rw [r0, r1, r2, r3, be4_eq b0 b1 b2 b3 ⟨p0, z0⟩ ⟨p1, z1⟩ ⟨p2, z2⟩ ⟨p3, z3⟩] at H
        have q1' : (4 : Int) ≤ (all.size : Int) - (at_ : Int) := by omega
        have q1n : at_ + 4 ≤ all.size := by omega
        have HA' := Aside0.mk (And.intro hA2 (And.intro hA3 hA4))
        have H' := Aside0.mk H
        clear hA2 hA3 hA4 q1 HS H r0 r1 r2 r3
        have l0 : (at_ : Int) < (all.size : Int) := by omega
        have l1 : (at_ : Int) + 1 < (all.size : Int) := by omega
        have l2 : (at_ : Int) + 2 < (all.size : Int) := by omega
        have l3 : (at_ : Int) + 3 < (all.size : Int) := by omega
        have e1 : ((at_ : Int) + 1).toNat = at_ + 1 := by omega
        have e2 : ((at_ : Int) + 2).toNat = at_ + 2 := by omega
        have e3 : ((at_ : Int) + 3).toNat = at_ + 3 := by omega
        have hLr : 0 ≤ b0 * 16777216 + b1 * 65536 + b2 * 256 + b3 ∧ b0 * 16777216 + b1 * 65536 + b2 * 256 + b3 < 4294967296 := by omega
        obtain ⟨L, hL⟩ : ∃ L, b0 * 16777216 + b1 * 65536 + b2 * 256 + b3 = L := ⟨_, rfl⟩
        rw [hL] at H' hLr
        obtain ⟨l, rfl⟩ := Int.eq_ofNat_of_zero_le hLr.1
        have hlr : (l : Int) < 4294967296 := hLr.2
        clear hLr
        go_wp2_with fail
        go_quiet (fail)
        have HW2 : Aside0 ((wr.drewN nq).heap[g]? = some (.cells #[.string s, .bool false] 55 (0, 0)) ∧ Below w0.heap.size w0 (wr.drewN nq) ∧ KeepBut w (wr.drewN nq) g none) := ⟨HW.out.1, pw_below_drewN HW.out.2.1 nq, HW.out.2.2⟩
        have HR2 : Aside0 (Kd.R Kd.string 9 (wr.drewN nq) w.heap.size (fun _ => True) u7 acc) := ⟨Kd.R_drewN HR.out nq⟩
        have c0 : (wr.drewN nq).cell? ⟨g, 0, none⟩ = some (.string s) := c0
        have c1 : (wr.drewN nq).cell? ⟨g, 1, none⟩ = some (.bool false) := c1
        have f0 : (wr.drewN nq).frozen? ⟨g, 0, none⟩ = false := f0
        have f1 : (wr.drewN nq).frozen? ⟨g, 1, none⟩ = false := f1
        clear HW HR i0 i1 i2 i3
        generalize wr.drewN nq = w2 at *
        have H := H'.out
        by_cases q2 : 65536 < (l : Int)
        · rw [if_pos q2] at H
          obtain rfl := H
          clear H'
          go_wp2
          go_ret2
          exact ⟨_, ⟨#[]⟩, rfl, R_far55 (R_far55 HR2.out HW2.out.1 0 _) (blk_put HW2.out.1 0 _ rfl) 1 _, blk_put (blk_put HW2.out.1 0 _ rfl) 1 _ rfl, rfl, below_set (below_set HW2.out.2.1 HG.out) HG.out, (HW2.out.2.2.set_ 0 _).set_ 1 _⟩
        · rw [if_neg q2, Int.toNat_natCast] at H
          have q2' : ¬ (65536 : Int) < (l : Int) := q2
          by_cases q3 : all.size < at_ + 4 + l
          · rw [if_pos q3] at H
            obtain rfl := H
            have q3' : (all.size : Int) - (at_ : Int) - 4 < (l : Int) := by omega
            have p3 : 0 ≤ (all.size : Int) - (at_ : Int) - 4 := by omega
            have hA2' : (at_ : Int) ≤ (all.size : Int) := by omega
            clear H' q3
            go_wp2
            go_ret2
            exact ⟨_, all.extract at_ all.size, rfl, R_far55 HR2.out HW2.out.1 0 _, blk_put HW2.out.1 0 _ rfl, bytesOf_drop all at_ HA'.out.1, below_set HW2.out.2.1 HG.out, HW2.out.2.2.set_ 0 _⟩
          · rw [if_neg q3, str_cut all (at_ + 4) l (by omega)] at H
            have q3' : ¬ (all.size : Int) - (at_ : Int) - 4 < (l : Int) := by omega
            have p3 : 0 ≤ (all.size : Int) - (at_ : Int) - 4 := by omega
            have p4 : (at_ : Int) + 4 + (l : Int) ≤ (all.size : Int) := by omega
            have e4 : ((at_ : Int) + 4).toNat = at_ + 4 := by omega
            have e5 : ((at_ : Int) + 4 + (l : Int)).toNat = at_ + 4 + l := by omega
            have HM := Aside0.mk (show at_ + 4 + l ≤ all.size ∧ acc.length + 1 ≤ at_ + 4 + l by have := HA'.out; omega)
            have H2 := Aside0.mk H
            clear H' q3 H
            go_wp2_with (first | ((with_reducible refine gate_builtin (b := .append) (xs := #[.tmp 70, .tmp 80]) rfl ?_); at_builtin; refine Kd.R_append Kd.string (w0 := w2) w.heap.size rfl (.tmp 70) (.tmp 80) 27 9 (.string ⟨#[]⟩) 16 rfl Try.underlying27 info9 rfl (by decide) (by omega) u7 acc (all.extract (at_ + 4) (at_ + 4 + l)) [.string (all.extract (at_ + 4) (at_ + 4 + l))] (fun _ => True) (fun _ => False) rfl rfl rfl (fun _ h => h.elim) (fun _ _ => trivial) HR2.out (Below.refl _ _) HW2.out.2.2.1 (by have := HM.out; omega) ?_; intro v1 w5 hr5 hb5 hg5 _; have HR5 := Aside0.mk hr5; have HW5 := Aside0.mk (ref_grown HW2.out HR2.out hg5 hb5 (Nat.le_trans HB.out.size (Nat.le_refl _))); clear hr5 hb5 hg5 c0 c1 f0 f1))
            go_roundg kq1
            case measure => have := HK.out; omega
            case rel => exact ⟨_, at_ + 4 + l, by simp; omega, ⟨H2.out, HM.out.1, by have := HM.out; have := HA'.out; omega, by rw [List.length_append]; exact HM.out.2⟩, ⟨by have := HK.out; omega⟩, ⟨HR5.out⟩, HW5⟩
theorem ref_calls (g : Nat) (s b : ByteArray) (bad : Bool) (w0 w : World) (hS : w.heap[g]? = some (.cells #[.string s, .bool bad] 55 (0, 0))) (hg : w0.heap.size ≤ g) (hB : Below w0.heap.size w0 w) (hs : s.size ≤ 100000) :
    Calls Try.prog 35 #[.pointer (some ⟨g, 0, none⟩), .string b] w (RefPost w0 w g (feedF (bytesOf s) bad b)) := by
  cases bad with
  | true => exact ref_true g s b w0 w hS hg hB
  | false =>
    by_cases hb : 262144 < b.size
    · exact ref_long g s b w0 w hS hg hB hb
    · exact ref_main g s b w0 w hS hg hB hb hs
end Go.Proofs.Ytmfbmagbpceomaa.Wire
