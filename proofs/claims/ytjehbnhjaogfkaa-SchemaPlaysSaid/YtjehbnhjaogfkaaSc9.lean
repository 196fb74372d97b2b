import Derived.Test.YtjehbnhjaogfkaaSc8
import Derived.Test.YtjehbnhjaogfkaaLay
import Derived.Shelf.SortM.Plain
namespace Go.Proofs.Ytjehbnhjaogfkaa.Sc
open Go.RowKit Go.Maps Go.Sort Go.Shelf Go.Proofs.YtjehbnhjaogfkaaW.PrintWords Go.Proofs.YtjehbnhjaogfkaaW.PrintLast Go.Proofs.YtjehbnhjaogfkaaW.PrintMore
set_option linter.unusedVariables false
set_option linter.unusedSimpArgs false
/-- slices.Sort's two contracts at this dump, at the fence that asks nothing. -/
theorem sorts30 (m : Nat) : AnyZ.SortsIn Try.prog Try.sorted30_ren Fence.wide m :=
  ⟨fun blk off cap ss W hH hblk hsz => callsIn_wide.2 (AnyM.slices_Sort_string Try.sort51 blk off cap ss W hH hblk hsz),
   fun p cap W => callsIn_wide.2 (AnyM.slices_Sort_string_none Try.sort51 p cap W)⟩
theorem maps_Keys_31 (mb : Option Nat) (W : World) : CallsIn Fence.wide 5 Try.prog 31 #[.map mb] W fun e w' => e = .returned (.func (.func 52) #[] #[.pointer (some ⟨W.heap.size, 0, none⟩)]) ∧ w' = W.alloc (.cells #[.map mb] 62) :=
  AnyZ.keys_in Try.keys31 Fence.wide 5 trivial rfl mb W
set_option maxHeartbeats 1000000 in
theorem slices_Sorted_keys {H : Type} (b nn : Nat) (D0 : DataW H) (R : Value → Option (DataW H × List MemPlace)) (w : World) (hown : w.ownsMap Try.prog 9 R b nn D0) (hmax : Maps.size D0 ≤ maxLen) (hbytes : Maps.size D0 * 16 ≤ 140737488355328) :
    CallsIn Fence.wide 5 Try.prog 30 #[.func (.func 52) #[] #[.pointer (some ⟨w.heap.size, 0, none⟩)]] (w.alloc (.cells #[.map (some b)] 62)) fun e w' => ∃ (v : Value) (ss : List (List UInt8)), e = .returned v ∧ ss.Perm (strKeys D0) ∧
      w'.ownsRow (w.alloc (.cells #[.map (some b)] 62)).heap.size 9 1 v ss.length ((ss.mergeSort (fun x y => decide (x ≤ y))).map encStr) ∧ (v = .slice none 0 0 ↔ ss = []) ∧ Below (w.alloc (.cells #[.map (some b)] 62)).heap.size (w.alloc (.cells #[.map (some b)] 62)) w' := by
  have hbl := hown.lt
  have hseq : SeqGives Fence.wide 2 Try.prog 52 #[.pointer (some ⟨w.heap.size, 0, none⟩)] encStr (fun ss => ss.Perm (strKeys D0)) (Maps.size D0) (w.alloc (.cells #[.map (some b)] 62)) :=
    AnyZ.keys_gives (ρ := Try.keys31_ren) { Try.keys31 with } Fence.wide _ trivial rfl (by omega) w.heap.size b nn D0 _ (by simp) (by simp) (by
      obtain ⟨es, clock, hb, Ft, hs, hD⟩ := hown
      exact ⟨es, clock, (Below.heap_alloc _ _ b hbl).trans hb, Ft, hs, hD⟩)
  exact AnyZ.sorted_in Try.sorted30 Fence.wide 5 trivial trivial trivial trivial rfl (by omega) (sorts30 _) (enters_of Try.func51 (by kernel_rfl) rfl) 52 #[.pointer (some ⟨w.heap.size, 0, none⟩)] trivial (enters_of Try.func52 (by kernel_rfl) rfl) _ _ hmax hbytes _ hseq
/-- The names as strings. -/
def nameL {V : Type} (m : FM.T V) : List ByteArray := (FM.names m).map fun k => ⟨k.toArray⟩
set_option maxHeartbeats 1000000 in
theorem names_walk (ok : Nat → Prop) (W : World) (g b : Nat) (M : CatM) (h : IsCat ok W g b M) : Calls Try.prog 13 #[.pointer (some ⟨g, 0, none⟩)] W fun e W' => ∃ v, e = .returned v ∧ W'.ownsRow W.heap.size 9 1 v (nameL M).length ((nameL M).map Value.string) ∧ Below W.heap.size W W' := by
  have HI := Aside0.mk h
  have c0 : W.cell? ⟨g, 0, none⟩ = some (Value.map (some b)) := (blk_cell h.blk 0).trans rfl
  have hmax : Maps.size (FM.toD DataW.held (mapV (·.1) M)) ≤ maxLen := by rw [FM.toD_size, mapV_len]; have := h.len; unfold maxLen; omega
  have hbytes : Maps.size (FM.toD DataW.held (mapV (·.1) M)) * 16 ≤ 140737488355328 := by rw [FM.toD_size, mapV_len]; have := h.len; omega
  have HH := Aside0.mk (slices_Sorted_keys b (mapV (·.1) M).length _ rawR W h.own hmax hbytes)
  clear h hmax hbytes
  refine (callsIn_wide (n := 6)).1 ?_
  have hfK : Fence.wide.fn 31 := trivial
  have hfS : Fence.wide.fn 30 := trivial
  refine callsIn_of_wp Try.func13 rfl trivial ?_ rfl
  simp only [Try.ntmps13, List.size_toArray, List.length_cons, List.length_nil, Nat.reduceAdd, Nat.reduceSub, Array.replicate_succ, Array.replicate_zero, List.push_toArray, List.append_toArray, List.nil_append, List.cons_append]
  gi_wp2_with (first
    | (gi_at_call 31; refine (maps_Keys_31 _ _).mono ?_; rintro e w' ⟨rfl, rfl⟩)
    | (gi_at_call 30; refine HH.out.mono ?_; rintro e w' ⟨v, ss, rfl, hS, hrow, hnil, hb⟩; have HS := Aside0.mk hS; have HRow := Aside0.mk hrow; have HBl := Aside0.mk hb; clear hS hrow hb hnil))
  go_ret
  have hS := HS.out
  have hrow := HRow.out
  have hb := HBl.out
  refine ⟨v, rfl, ?_, ((Below.refl _ W).alloc (Nat.le_refl _) _).trans (hb.mono (by simp))⟩
  have e1 := FM.names_of hS
  have e0 : FM.names (mapV (·.1) M) = FM.names M := by unfold FM.names; rw [mapV_keys]
  rw [e0] at e1
  rw [e1] at hrow
  have e2 : (nameL M).length = ss.length := by unfold nameL; rw [List.length_map, ← e1, List.length_mergeSort]
  have e3 : (nameL M).map Value.string = (FM.names M).map encStr := by unfold nameL; rw [List.map_map]; rfl
  rw [e2, e3]
  exact ownsRow_base_a hrow (by simp)
end Go.Proofs.Ytjehbnhjaogfkaa.Sc
