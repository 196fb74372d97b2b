import Derived.Test.YtdnmllodefbekaaDoorAu6
import Derived.Shelf.SortM.Plain
namespace Go.Proofs.YtdnmllodefbekaaDoor.Au
open Go.RowKit Go.Lib Go.Maps Go.Sort Go.Shelf Go.Proofs.YtdnmllodefbekaaDoor.Sha Go.Proofs.YtdnmllodefbekaaDoorW.PrintWords Go.Proofs.YtdnmllodefbekaaDoorW.PrintLast Go.Proofs.YtdnmllodefbekaaDoorW.PrintMore
set_option linter.unusedVariables false
set_option linter.unusedSimpArgs false
/-- slices.Sort's two contracts at this dump, at the fence that asks nothing. -/
theorem sorts54 (m : Nat) : AnyZ.SortsIn Tryd.prog Tryd.sorted54_ren Fence.wide m :=
  ⟨fun blk off cap ss W hH hblk hsz => callsIn_wide.2 (AnyM.slices_Sort_string Tryd.sort62 blk off cap ss W hH hblk hsz),
   fun p cap W => callsIn_wide.2 (AnyM.slices_Sort_string_none Tryd.sort62 p cap W)⟩
theorem maps_Keys_55 (mb : Option Nat) (W : World) : CallsIn Fence.wide 5 Tryd.prog 55 #[.map mb] W fun e w' => e = .returned (.func (.func 63) #[] #[.pointer (some ⟨W.heap.size, 0, none⟩)]) ∧ w' = W.alloc (.cells #[.map mb] 61) :=
  AnyZ.keys_in Tryd.keys55 Fence.wide 5 trivial rfl mb W
set_option maxHeartbeats 1000000 in
theorem slices_Sorted_keys {H : Type} (b nn : Nat) (D0 : DataW H) (R : Value → Option (DataW H × List MemPlace)) (w : World) (hown : w.ownsMap Tryd.prog 9 R b nn D0) (hmax : Maps.size D0 ≤ maxLen) (hbytes : Maps.size D0 * 16 ≤ 140737488355328) :
    CallsIn Fence.wide 5 Tryd.prog 54 #[.func (.func 63) #[] #[.pointer (some ⟨w.heap.size, 0, none⟩)]] (w.alloc (.cells #[.map (some b)] 61)) fun e w' => ∃ (v : Value) (ss : List (List UInt8)), e = .returned v ∧ ss.Perm (strKeys D0) ∧
      w'.ownsRow (w.alloc (.cells #[.map (some b)] 61)).heap.size 9 1 v ss.length ((ss.mergeSort (fun x y => decide (x ≤ y))).map encStr) ∧ (v = .slice none 0 0 ↔ ss = []) ∧ Below (w.alloc (.cells #[.map (some b)] 61)).heap.size (w.alloc (.cells #[.map (some b)] 61)) w' := by
  have hbl := hown.lt
  have hseq : SeqGives Fence.wide 2 Tryd.prog 63 #[.pointer (some ⟨w.heap.size, 0, none⟩)] encStr (fun ss => ss.Perm (strKeys D0)) (Maps.size D0) (w.alloc (.cells #[.map (some b)] 61)) :=
    AnyZ.keys_gives (ρ := Tryd.keys55_ren) { Tryd.keys55 with } Fence.wide _ trivial rfl (by omega) w.heap.size b nn D0 _ (by simp) (by simp) (by
      obtain ⟨es, clock, hb, Ft, hs, hD⟩ := hown
      exact ⟨es, clock, (Below.heap_alloc _ _ b hbl).trans hb, Ft, hs, hD⟩)
  exact AnyZ.sorted_in Tryd.sorted54 Fence.wide 5 trivial trivial trivial trivial rfl (by omega) (sorts54 _) (enters_of Tryd.func62 (by kernel_rfl) rfl) 63 #[.pointer (some ⟨w.heap.size, 0, none⟩)] trivial (enters_of Tryd.func63 (by kernel_rfl) rfl) _ _ hmax hbytes _ hseq
/-- The names as strings. -/
def nameL (m : Ks) : List ByteArray := (FM.names m).map fun k => ⟨k.toArray⟩
set_option maxHeartbeats 1000000 in
theorem names_walk (W : World) (g b : Nat) (m : Ks) (h : IsAu W g b m) : Calls Tryd.prog 39 #[.pointer (some ⟨g, 0, none⟩)] W fun e W' => ∃ v, e = .returned v ∧ W'.ownsRow W.heap.size 9 1 v (nameL m).length ((nameL m).map Value.string) ∧ Below W.heap.size W W' := by
  have HI := Aside0.mk h
  have c0 := (blk_cell h.blk 0).trans (show _ = some (Value.map (some b)) from rfl)
  have hmax : Maps.size (FM.toD (H := Unit) strD m) ≤ maxLen := by rw [FM.toD_size]; have := h.len; unfold maxLen; omega
  have hbytes : Maps.size (FM.toD (H := Unit) strD m) * 16 ≤ 140737488355328 := by rw [FM.toD_size]; have := h.len; omega
  have HM := Aside0.mk hmax
  have HBy := Aside0.mk hbytes
  clear h hmax hbytes
  refine (callsIn_wide (n := 6)).1 ?_
  have hfK : Fence.wide.fn 55 := trivial
  have hfS : Fence.wide.fn 54 := trivial
  refine callsIn_of_wp Tryd.func39 rfl trivial ?_ rfl
  simp only [Tryd.ntmps39, List.size_toArray, List.length_cons, List.length_nil, Nat.reduceAdd, Nat.reduceSub, Array.replicate_succ, Array.replicate_zero, List.push_toArray, List.append_toArray, List.nil_append, List.cons_append]
  gi_wp2_with (first
    | (gi_at_call 55; refine (maps_Keys_55 _ _).mono ?_; rintro e w' ⟨rfl, rfl⟩)
    | (gi_at_call 54; refine (slices_Sorted_keys b m.length (FM.toD (H := Unit) strD m) strR W HI.out.own HM.out HBy.out).mono ?_; rintro e w' ⟨v, ss, rfl, hS, hrow, hnil, hb⟩))
  go_ret
  refine ⟨v, rfl, ?_, ((Below.refl _ W).alloc (Nat.le_refl _) _).trans (hb.mono (by simp))⟩
  have e1 := FM.names_of hS
  rw [e1] at hrow
  have e2 : (nameL m).length = ss.length := by unfold nameL; rw [List.length_map, ← e1, List.length_mergeSort]
  have e3 : (nameL m).map Value.string = (FM.names m).map encStr := by unfold nameL; rw [List.map_map]; rfl
  rw [e2, e3]
  exact ownsRow_base_a hrow (by simp)
end Go.Proofs.YtdnmllodefbekaaDoor.Au
