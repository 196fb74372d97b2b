import Derived.Test.YtjkllbilfcopmaaDk15
namespace Go.Proofs.Ytjkllbilfcopmaa.Dk
open Go.RowKit Go.Proofs.YtjkllbilfcopmaaW.PrintWords Go.Proofs.YtjkllbilfcopmaaW.PrintLast Go.Proofs.YtjkllbilfcopmaaW.PrintMore
set_option linter.unusedVariables false
set_option linter.unusedSimpArgs false
set_option maxRecDepth 100000 in
set_option maxHeartbeats 4000000 in
/-- Two slices of the same texts are the same. -/
theorem same_walk (W : World) (S T : Nat → Prop) (A B : Option Addr) (l : List ByteArray) (c c' : Nat) (hA : StrsAt S W A l) (hB : StrsAt T W B l) :
    Calls Try.prog 19 #[.slice A l.length c, .slice B l.length c'] W fun e W' => e = .returned (.bool true) ∧ Below W.heap.size W W' := by
  have HA := Lib.hid hA
  have HB := Lib.hid hB
  have hlm : l.length ≤ 9223372036854775807 := by have := hA.1; unfold maxLen at this; omega
  clear hA hB
  go_enter Try.func19, Try.ntmps19
  go_wp2
  go_loopg [5] (l.length + 1) (fun kq v5 w' => ∃ j : Nat, v5 = .int .i64 (j : Int) ∧ Hid (j + kq = l.length + 1 ∧ j ≤ l.length) ∧ Hid (Below W.heap.size W w'))
  case atStart => exact ⟨0, rfl, Lib.hid ⟨by omega, Nat.zero_le _⟩, Lib.hid (Below.refl _ _)⟩
  case round =>
    obtain ⟨j, rfl, HJ, HBl⟩ := hrel
    obtain ⟨j1, j2⟩ := HJ.out
    by_cases hj : j < l.length
    · obtain ⟨kq1, rfl⟩ : ∃ kq1, gk = kq1 + 1 := ⟨gk - 1, by omega⟩
      have hjj : (j : Int) < (l.length : Int) := by omega
      obtain ⟨ad, rfl, hc1⟩ := (HA.out.fr (Fr.of_below HBl.out)).at_ j hj
      obtain ⟨ad2, rfl, hc2⟩ := (HB.out.fr (Fr.of_below HBl.out)).at_ j hj
      go_wp2_with fail
      go_quiet (fail)
      go_wp2_with fail
      go_roundg kq1
      case measure => omega
      case rel => exact ⟨j + 1, by go_num, Lib.hid ⟨by omega, by omega⟩, Lib.hid (pw_below_drewN HBl.out _)⟩
    · have hjj : ¬ (j : Int) < (l.length : Int) := by omega
      go_wp2
      go_ret
      exact ⟨rfl, HBl.out⟩
theorem own_b {w w1 : World} {base : Nat} {e : TypeId} {size n : Nat} {v : Value} {xs : List Value} (h : w.ownsRow base e size v n xs) (hb : Below w.heap.size w w1) : w1.ownsRow base e size v n xs := Go.Proofs.YtjkllbilfcopmaaW.PrintWords.own_move h fun k hk => hb.block k (h.lt k hk).2
/-- What each file has, with its name. -/
def allL (d : DS) : List ByteArray := (nameL d).flatMap fun s => [s, (read d s).1]
theorem info9 : (Try.prog.info? 9).map (fun i => (i.zero, i.size, i.bytes)) = some (some (.string ByteArray.empty), 1, 16) := by kernel_rfl
theorem flat_take {α β : Type} (f : α → List β) (l : List α) (j : Nat) (h : j < l.length) : (l.take (j + 1)).flatMap f = (l.take j).flatMap f ++ f (l[j]) := by
  rw [List.take_succ_eq_append_getElem h, List.flatMap_append]
  simp
theorem flat_len (d : DS) (l : List ByteArray) : (l.flatMap fun s => [s, (read d s).1]).length = 2 * l.length := by
  induction l with
  | nil => rfl
  | cons x l ih => rw [List.flatMap_cons, List.length_append, ih]; simp; omega
set_option maxRecDepth 100000 in
set_option maxHeartbeats 8000000 in
theorem all_walk (W : World) (g b : Nat) (d : DS) (h : IsDk W g b d) : Calls Try.prog 18 #[.pointer (some ⟨g, 0, none⟩)] W fun e W' => ∃ v, e = .returned v ∧ W'.ownsRow W.heap.size 9 1 v (allL d).length ((allL d).map Value.string) ∧ Below W.heap.size W W' := by
  have HI := Lib.hid h
  clear h
  go_enter Try.func18, Try.ntmps18
  go_wp2_with fail
  refine (names_walk W g b d HI.out).mono ?_
  rintro e W2 ⟨v, rfl, hrow, hB2⟩
  obtain ⟨A2, k2, rfl, hN, hk2, hkm⟩ := own_row (S := fun _ => False) hrow (fun k hk e => e)
  have hLl : (nameL d).length ≤ 64 := by unfold nameL; rw [List.length_map, FM.names_len]; exact HI.out.fine.many
  have hsz : ∀ s ∈ nameL d, s.size ≤ 32 := fun s hs => by
    unfold nameL at hs
    obtain ⟨k, hk, rfl⟩ := List.mem_map.1 hs
    obtain ⟨v, hv⟩ := FM.mem_names.1 hk
    have := (HI.out.fine.fls _ hv).2.2.2
    show k.toArray.size ≤ 32
    simpa using this
  obtain ⟨L, hL⟩ : ∃ L, nameL d = L := ⟨_, rfl⟩
  have hAll : allL d = L.flatMap fun s => [s, (read d s).1] := by unfold allL; rw [hL]
  rw [hL] at hN hLl hsz ⊢
  have HAll := Lib.hid hAll
  have HSZ := Lib.hid hsz
  have HN := Lib.hid hN
  have HB2 := Lib.hid hB2
  have hown0 : W2.ownsRow W2.heap.size 9 1 (.slice none 0 0) ((L.take 0).flatMap fun s => [s, (read d s).1]).length (((L.take 0).flatMap fun s => [s, (read d s).1]).map Value.string) := ⟨rfl, .inl ⟨rfl, rfl⟩⟩
  have HO0 := Lib.hid hown0
  clear hrow hN hL hB2 hkm hAll hsz hown0
  obtain ⟨i0, hi, hzz⟩ := Option.map_eq_some_iff.1 info9
  simp only [Prod.mk.injEq] at hzz
  have HZZ := Lib.hid (And.intro hi hzz)
  clear hi hzz
  go_wp2_with fail
  go_loopg [3, 11] (L.length + 1) (fun kq v3 v11 w' => ∃ j : Nat, v11 = .int .i64 (j : Int) ∧ Hid (j + kq = L.length + 1 ∧ j ≤ L.length) ∧ Hid (Below W2.heap.size W2 w') ∧ Hid (w'.ownsRow W2.heap.size 9 1 v3 ((L.take j).flatMap fun s => [s, (read d s).1]).length (((L.take j).flatMap fun s => [s, (read d s).1]).map Value.string)))
  case atStart => exact ⟨0, rfl, Lib.hid ⟨by omega, Nat.zero_le _⟩, Lib.hid (Below.refl _ _), HO0⟩
  case round =>
    clear HO0
    obtain ⟨j, rfl, HJ, HBl, HO⟩ := hrel
    obtain ⟨j1, j2⟩ := HJ.out
    by_cases hj : j < L.length
    · obtain ⟨kq1, rfl⟩ : ∃ kq1, gk = kq1 + 1 := ⟨gk - 1, by omega⟩
      have hjj : (j : Int) < (L.length : Int) := by omega
      obtain ⟨ad, rfl, hc1⟩ := (HN.out.fr (Fr.of_below HBl.out)).at_ j hj
      have hget : L.getD j ByteArray.empty = L[j] := by simp [List.getD_eq_getElem?_getD, hj]
      rw [hget] at hc1
      have hs32 : L[j].size ≤ 32 := HSZ.out _ (List.getElem_mem hj)
      have hfl := flat_take (fun s => [s, (read d s).1]) L j hj
      obtain ⟨s, hs⟩ : ∃ s, L[j] = s := ⟨_, rfl⟩
      rw [hs] at hc1 hs32 hfl
      have HFL := Lib.hid hfl
      clear hget hs hfl
      go_wp2_with fail
      refine (read_walk wr g b d (HI.out.below (below_step HB2.out HBl.out)) s (by unfold maxLen; omega)).mono ?_
      obtain ⟨r1, hr1⟩ : ∃ r1, (read d s).1 = r1 := ⟨_, rfl⟩
      rintro e W4 ⟨rfl, hb4⟩
      rw [hr1]
      have HR1 := Lib.hid hr1
      have HB4 := Lib.hid hb4
      clear hr1 hb4
      have HOa := Lib.hid ((own_b HO.out HB4.out).alloc (.cells #[.string s, .string r1] 9))
      have HBa := Lib.hid (below_alloc (below_step HBl.out HB4.out) (.cells #[.string s, .string r1] 9))
      have hnews : ∀ (i : Nat) (u : Value), [Value.string s, Value.string r1][i]? = some u → (W4.alloc (.cells #[.string s, .string r1] 9)).cell? ((⟨W4.heap.size, 0, none⟩ : Addr).add i) = some u := fun i u hu => by
        rw [add_plain, blk_cell (heap_alloc_new W4 _) i]
        simpa using hu
      have HNe := Lib.hid hnews
      have hlen : ((L.take j).flatMap fun s => [s, (read d s).1]).length ≤ 128 := by rw [flat_len, List.length_take]; omega
      have HLe := Lib.hid hlen
      clear hnews hlen
      obtain ⟨X, hX⟩ : ∃ X, (L.take j).flatMap (fun s => [s, (read d s).1]) = X := ⟨_, rfl⟩
      rw [hX] at HO HOa HLe HFL
      clear hX
      go_wp2_with (first | (at_builtin; refine wpList_append_own _ rfl (.tmp 21) (.tmp 24) 39 rfl W2.heap.size 9 i0 (.string ByteArray.empty) 1 16 Try.underlying39 HZZ.out.1 HZZ.out.2.1 HZZ.out.2.2.1 HZZ.out.2.2.2 rfl (by decide) _ _ _ rfl HOa.out ⟨W4.heap.size, 0, none⟩ 2 2 [.string s, .string r1] rfl rfl HNe.out (by simp [Value.oneCell']) (by have := HLe.out; unfold maxLen; omega) (by have := HLe.out; omega) (HBa.out.size) ?_; intro v5 W5 ho hg _; have HO5 := Lib.hid ho; have HB5 := Lib.hid (HBa.out.grown hg HBa.out.size (fun k hk => (HOa.out.lt k hk).1)); clear ho hg))
      go_roundg kq1
      case measure => omega
      case rel =>
        refine ⟨j + 1, by go_num, Lib.hid ⟨by omega, by omega⟩, HB5, ?_⟩
        have h5 := HO5.out
        rw [HFL.out, HR1.out]
        refine Lib.hid ?_
        rw [List.length_append, List.map_append]
        exact h5
    · have hjj : ¬ (j : Int) < (L.length : Int) := by omega
      have hje : j = L.length := by omega
      subst hje
      go_wp2
      go_ret
      have hO := HO.out
      rw [List.take_length, ← HAll.out] at hO
      exact ⟨_, rfl, ownsRow_base_a hO HB2.out.size, below_step HB2.out HBl.out⟩
end Go.Proofs.Ytjkllbilfcopmaa.Dk
