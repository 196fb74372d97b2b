import Derived.Test.YtmfbmagbpceomaaWireFeed
namespace Go.Proofs.Ytmfbmagbpceomaa.Wire
open Go.RowKit Go.Proofs.YtmfbmagbpceomaaW.PrintWords Go.Proofs.YtmfbmagbpceomaaW.PrintLast Go.Proofs.YtmfbmagbpceomaaW.PrintMore
set_option linter.unusedVariables false
set_option linter.unusedSimpArgs false
theorem feed_calls (g : Nat) (kept : List Int) (bad : Bool) (b : ByteArray) (w0 w : World) (hS : St w0 w g kept bad) (hB : Below w0.heap.size w0 w) (hk : kept.length ≤ 100000000) :
    Calls Try.prog 19 #[.pointer (some ⟨g, 0, none⟩), .string b] w (FeedPost w0 w g (feedF kept bad b)) := by
  cases bad with
  | true => exact feed_bad g kept b w0 w hS hB
  | false =>
    by_cases hb : 262144 < b.size
    · exact feed_long g kept b w0 w hS hB hb
    · exact feed_main g kept b w0 w hS hB hb hk
theorem works1 : feedF [] false ⟨#[0, 0]⟩ = ([], 0, [0, 0], false) := by kernel_rfl
theorem works2 : feedF [0, 0] false ⟨#[0, 3, 97, 98, 99, 0]⟩ = ([⟨#[97, 98, 99]⟩], 0, [0], false) := by kernel_rfl
theorem new_calls (w0 w : World) (hB : Below w0.heap.size w0 w) :
    Calls Try.prog 17 #[] w fun e w' => ∃ g, e = .returned (.pointer (some ⟨g, 0, none⟩)) ∧ St w0 w' g [] false ∧ Below w0.heap.size w0 w' ∧ Below w.heap.size w w' := by
  have hs := hB.size
  go_enter Try.func17, Try.ntmps17
  go_wp2
  go_ret
  exact ⟨w.heap.size, rfl, ⟨hs, _, heap_alloc_new w _, own_nil _ _ _ _⟩, hB.alloc hs _, below_alloc (Below.refl _ _) _⟩
theorem left_calls (g : Nat) (kept : List Int) (bad : Bool) (w0 w : World) (hS : St w0 w g kept bad) :
    Calls Try.prog 21 #[.pointer (some ⟨g, 0, none⟩)] w fun e w' => e = .returned (.int .i64 (kept.length : Int)) ∧ Drawn0 w w' := by
  obtain ⟨hge, kv, hb, ho⟩ := hS
  obtain ⟨A, c, rfl⟩ := own_slice ho
  have c0 := blk_cell hb 0
  simp at c0
  clear hb ho
  go_enter Try.func21, Try.ntmps21
  go_wp2
  go_ret
  exact ⟨rfl, Drawn0.refl _⟩
theorem bad_calls (g : Nat) (kept : List Int) (bad : Bool) (w0 w : World) (hS : St w0 w g kept bad) :
    Calls Try.prog 20 #[.pointer (some ⟨g, 0, none⟩)] w fun e w' => e = .returned (.bool bad) ∧ Drawn0 w w' := by
  obtain ⟨hge, kv, hb, ho⟩ := hS
  have c1 := blk_cell hb 1
  simp at c1
  clear hb ho
  go_enter Try.func20, Try.ntmps20
  go_wp2
  go_ret
  exact ⟨rfl, Drawn0.refl _⟩
theorem works_calls (w : World) : Calls Try.prog 18 #[] w fun e w' => e = .returned (.bool true) ∧ Below w.heap.size w w' := by
  go_enter Try.func18, Try.ntmps18
  go_wp2_with fail
  refine (new_calls w w (Below.refl _ _)).mono ?_
  rintro e w1 ⟨g, rfl, hS, hB, _⟩
  have HS := Aside0.mk hS
  have HB := Aside0.mk hB
  clear hS hB
  go_wp2_with fail
  refine (feed_calls g [] false ⟨#[0, 0]⟩ w w1 HS.out HB.out (by simp)).mono ?_
  rw [works1]
  rintro e w2 ⟨v2, rfl, hR2, hS2, hB2, hK2⟩
  have HS2 := Aside0.mk hS2
  have HB2 := Aside0.mk hB2
  obtain ⟨A2, n2, rfl⟩ := Kd.R_slice hR2
  clear hS2 hB2
  go_wp2_with fail
  refine (feed_calls g [0, 0] false ⟨#[0, 3, 97, 98, 99, 0]⟩ w w2 HS2.out HB2.out (by simp)).mono ?_
  rw [works2]
  rintro e w3 ⟨v3, rfl, hR3, hS3, hB3, hK3⟩
  have HS3 := Aside0.mk hS3
  have HB3 := Aside0.mk hB3
  obtain ⟨gb, n3, rfl, _⟩ := Kd.R_form hR3 (by simp)
  have c3 := (Kd.R_cell (⟨#[]⟩ : ByteArray) hR3 0 (by omega) (by simp)).1
  simp only [Int.toNat_zero, rdOf, List.getD_cons_zero] at c3
  clear hS3 hB3 hR3 hK3 hR2 hK2
  go_wp2_with fail
  refine (left_calls g [0] false w w3 HS3.out).mono ?_
  rintro e w4 ⟨rfl, hd⟩
  obtain ⟨n4, rfl⟩ := hd.out
  have HB4 := Aside0.mk (pw_below_drewN HB3.out n4)
  clear hd HS HB HS2 HB2 HS3 HB3 c3
  go_wp2
  go_ret
  exact ⟨rfl, HB4.out⟩
def wsum : List ByteArray → Nat
  | [] => 0
  | s :: l => 4 + s.size + wsum l
theorem wsum_append (l : List ByteArray) (s : ByteArray) : wsum (l ++ [s]) = wsum l + (4 + s.size) := by
  induction l with
  | nil => simp [wsum]
  | cons x l ih => simp [wsum, ih]; omega
theorem strOfNums_size (xs : List Int) : (strOfNums xs).size = xs.length := by simp [strOfNums, ByteArray.size]
def Fine (total : Nat) (r : List ByteArray × Int × List Int × Bool) : Prop :=
  (r.2.1 = 70 ∧ r.2.2 = ([], true)) ∨ (r.2.1 = 0 ∧ r.2.2.2 = false ∧ r.2.2.1.length < 65540 ∧ r.2.2.1.length + wsum r.1 = total)
theorem fl_fine (all : List Int) : ∀ (k : Nat) (acc : List ByteArray) (at_ : Nat), at_ ≤ all.length → all.length - at_ < k → wsum acc = at_ → Fine all.length (fl k all acc at_) := by
  intro k
  induction k with
  | zero => intro acc at_ h1 h2 h3; omega
  | succ k ih =>
    intro acc at_ h1 h2 h3
    unfold fl
    have hr := be4_range (rd all (at_ : Nat)) (rd all (at_ + 1 : Nat)) (rd all (at_ + 2 : Nat)) (rd all (at_ + 3 : Nat))
    generalize be4 (rd all (at_ : Nat)) (rd all (at_ + 1 : Nat)) (rd all (at_ + 2 : Nat)) (rd all (at_ + 3 : Nat)) = L at *
    split
    · exact .inr ⟨rfl, rfl, by rw [List.length_drop]; omega, by simp only [List.length_drop]; omega⟩
    · split
      · exact .inl ⟨rfl, rfl⟩
      · split
        · exact .inr ⟨rfl, rfl, by rw [List.length_drop]; omega, by simp only [List.length_drop]; omega⟩
        · refine ih _ _ (by omega) (by omega) ?_
          rw [wsum_append, strOfNums_size, List.length_take, List.length_drop]
          omega
theorem feed_fine (kept : List Int) (b : ByteArray) : feedF kept false b = ([], 2, kept, false) ∨ Fine (kept.length + b.size) (feedF kept false b) := by
  unfold feedF
  simp only [Bool.false_eq_true, if_false]
  split
  · exact .inl rfl
  · refine .inr ?_
    have := fl_fine (kept ++ bytesOf b) ((kept ++ bytesOf b).length + 1) [] 0 (Nat.zero_le _) (by omega) rfl
    have e : (kept ++ bytesOf b).length = kept.length + b.size := by rw [List.length_append, bytesOf_length]
    rw [← e]; exact this
end Go.Proofs.Ytmfbmagbpceomaa.Wire
