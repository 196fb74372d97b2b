/- Mc: the texts Au0, Au1, Au2, Au3, Au4, Au5, Au6, Au11, Au12, Au14, one behind the other. -/
import Derived.Test.YtdnmllodefbekaaDoorFM
import Derived.Test.YtdnmllodefbekaaDoorLay
import Derived.Maps.OwnSet
import Derived.BigQuiet
import Derived.StillTailTactics
import Derived.Carry
import Derived.Lib.Hide
import Derived.Test.YtdnmllodefbekaaDoorMa
import Derived.Shelf.SortM.Plain
import Derived.Sort.Walk0
section
namespace Go.Proofs.YtdnmllodefbekaaDoor.Au
open Go.RowKit Go.Lib Go.Shelf Go.Proofs.YtdnmllodefbekaaDoor.Sha Go.Proofs.YtdnmllodefbekaaDoorW.PrintWords Go.Proofs.YtdnmllodefbekaaDoorW.PrintLast Go.Proofs.YtdnmllodefbekaaDoorW.PrintMore
set_option linter.unusedVariables false
set_option linter.unusedSimpArgs false
/-- The bytes that a name may have. -/
def cutB : ByteArray := ⟨#[97, 98, 99, 100, 101, 102, 103, 104, 105, 106, 107, 108, 109, 110, 111, 112, 113, 114, 115, 116, 117, 118, 119, 120, 121, 122, 48, 49, 50, 51, 52, 53, 54, 55, 56, 57, 46]⟩
def nameOk (s : ByteArray) : Bool := !s.data.toList.isEmpty && decide (s.size ≤ 32) && (trimS s.data.toList cutB.data.toList).isEmpty
theorem may_empty (w : World) : Calls Tryd.prog 49 #[.string ⟨#[]⟩] w fun e w' => e = .returned (.bool false) ∧ Below w.heap.size w w' := by
  go_enter Tryd.func49, Tryd.ntmps49
  go_wp2
  go_ret
  exact ⟨rfl, Below.refl _ _⟩
theorem trim_walk (s : ByteArray) (w : World) (hs : s.size ≤ maxLen) : Calls Tryd.prog 60 #[.string s, .string cutB] w fun e w' => e = .returned (.string ⟨(trimS s.data.toList cutB.data.toList).toArray⟩) ∧ Below w.heap.size w w' :=
  Any.strings_Trim_laid Tryd.trim60 (by kernel_rfl) s cutB w (by unfold maxLen at hs; omega) (by decide) (ascii_of_all (by decide))
set_option maxHeartbeats 1000000 in
theorem may_walk (s : ByteArray) (w : World) (hs : s.size ≤ maxLen) : Calls Tryd.prog 49 #[.string s] w fun e w' => e = .returned (.bool (nameOk s)) ∧ Below w.heap.size w w' := by
  by_cases h0 : s.data.toList = []
  · have : s = ⟨#[]⟩ := ByteArray.ext (by rw [← Array.toList_inj, h0])
    subst this
    exact may_empty w
  · have hz : 0 < s.size := by
      have := List.length_pos_iff.2 h0
      rw [Array.length_toList] at this
      exact this
    have h0' : s.toList.isEmpty = false := by rw [ByteArray.toList_eq]; simpa using h0
    by_cases h1 : 32 < s.size
    · have hN : nameOk s = false := by unfold nameOk; simp; omega
      rw [hN]
      have h1' : (32 : Int) < (s.size : Int) := by omega
      clear hN
      go_enter Tryd.func49, Tryd.ntmps49
      go_wp2
      go_ret
      exact ⟨rfl, Below.refl _ _⟩
    · have h1' : (s.size : Int) ≤ 32 := by omega
      rw [show nameOk s = (trimS s.data.toList cutB.data.toList).isEmpty from by
        unfold nameOk
        have e1 : s.data.toList.isEmpty = false := by simpa using h0
        have e2 : decide (s.size ≤ 32) = true := decide_eq_true (by omega)
        rw [e1, e2]; rfl]
      have HT := Aside0.mk (trim_walk s w hs)
      generalize trimS s.data.toList cutB.data.toList = T at HT ⊢
      clear h0
      go_enter Tryd.func49, Tryd.ntmps49
      cases T with
      | nil =>
        go_wp2_with fail
        refine HT.out.mono ?_
        rintro e w1 ⟨rfl, hB⟩
        have HB := Aside0.mk hB
        clear hB HT
        go_wp2
        go_ret
        exact ⟨rfl, HB.out⟩
      | cons x l =>
        have hx : (⟨(x :: l).toArray⟩ : ByteArray).toList ≠ [] := by rw [ByteArray.toList_eq]; simp
        have HX := Aside0.mk hx
        generalize (⟨(x :: l).toArray⟩ : ByteArray) = r at HT HX
        clear hx
        go_wp2_with fail
        refine HT.out.mono ?_
        rintro e w1 ⟨rfl, hB⟩
        have HB := Aside0.mk hB
        have hx := HX.out
        clear hB HT
        go_wp2
        go_ret
        exact ⟨by simpa using hx, HB.out⟩
end Go.Proofs.YtdnmllodefbekaaDoor.Au
end

section
namespace Go.Proofs.YtdnmllodefbekaaDoor.Au
open Go.RowKit Go.Lib Go.Shelf Go.Proofs.YtdnmllodefbekaaDoor.Sha Go.Proofs.YtdnmllodefbekaaDoorW.PrintWords Go.Proofs.YtdnmllodefbekaaDoorW.PrintLast Go.Proofs.YtdnmllodefbekaaDoorW.PrintMore
set_option linter.unusedVariables false
set_option linter.unusedSimpArgs false
def byteAt (n : Int) (i : Nat) : Int := n / 2 ^ (8 * i) % 256
def eightL (n : Int) (k : Nat) : List Int := (List.range 8).map fun i => if i < k then byteAt n i else 0
def eightS (n : Int) : ByteArray := strOfNums (eightL n 8)
theorem eightL_len (n : Int) (k : Nat) : (eightL n k).length = 8 := by simp [eightL]
theorem put_eight (n : Int) (t : Nat) (x : Int) (ht : t < 8) (hx : x = byteAt n t) : (nums .u8 (eightL n t)).toArray.setIfInBounds t (.int .u8 x) = (nums .u8 (eightL n (t + 1))).toArray := by
  subst hx
  unfold nums
  rw [List.setIfInBounds_toArray]
  congr 1
  apply List.ext_getElem (by simp [eightL])
  intro i h1 h2
  rw [List.getElem_set]
  split
  · rename_i e
    subst e
    simp [eightL]
  · rename_i e
    have : (i < t) ↔ (i < t + 1) := by omega
    simp [eightL, this]
set_option maxRecDepth 100000 in
set_option maxHeartbeats 4000000 in
theorem eight_walk (n : Int) (h0 : 0 ≤ n) (h1 : n < 18446744073709551616) (w : World) : Calls Tryd.prog 50 #[.int .u64 n] w fun e w' => e = .returned (.string (eightS n)) ∧ Below w.heap.size w w' := by
  have HN := Aside0.mk (And.intro h0 h1)
  clear h0 h1
  go_enter Tryd.func50, Tryd.ntmps50
  go_wp2_with fail
  have HW := Aside0.mk (show (w.alloc (.cells (nums .u8 (eightL n 0)).toArray 94)).heap[w.heap.size]? = some (.cells (nums .u8 (eightL n 0)).toArray 94 (0, 0)) ∧ Below w.heap.size w (w.alloc (.cells (nums .u8 (eightL n 0)).toArray 94)) from ⟨heap_alloc_new w _, below_alloc (Below.refl _ _) _⟩)
  go_loopg [5] 9 (fun kq v10 w' => ∃ t : Nat, v10 = .int .i64 (t : Int) ∧ Aside0 (t + kq = 9 ∧ t ≤ 8) ∧ Aside0 (w'.heap[w.heap.size]? = some (.cells (nums .u8 (eightL n t)).toArray 94 (0, 0)) ∧ Below w.heap.size w w'))
  case atStart => exact ⟨0, rfl, ⟨rfl, Nat.zero_le _⟩, HW⟩
  case round =>
    obtain ⟨t, rfl, HT, HV⟩ := hrel
    by_cases q1 : t < 8
    · obtain ⟨kq1, rfl⟩ : ∃ kq1, gk = kq1 + 1 := ⟨gk - 1, by have := HT.out; omega⟩
      have cz : ∀ i : Nat, i < 8 → _ := fun i hi => cell_nums HV.out.1 i (by rw [eightL_len]; exact hi)
      have fz := blk_frozen HV.out.1 t
      rcases (show t = 0 ∨ t = 1 ∨ t = 2 ∨ t = 3 ∨ t = 4 ∨ t = 5 ∨ t = 6 ∨ t = 7 by omega) with rfl | rfl | rfl | rfl | rfl | rfl | rfl | rfl
      · have cz := cz 0 (by omega)
        go_wp2
        go_roundg kq1
        case measure => omega
        case rel => exact ⟨1, rfl, ⟨by have := HT.out; omega, by omega⟩, ⟨blk_put HV.out.1 0 _ (put_eight n 0 _ (by decide) (by simp only [byteAt]; go_num)), below_set HV.out.2 (Nat.le_refl _)⟩⟩
      · have cz := cz 1 (by omega)
        go_wp2
        go_roundg kq1
        case measure => omega
        case rel => exact ⟨2, rfl, ⟨by have := HT.out; omega, by omega⟩, ⟨blk_put HV.out.1 1 _ (put_eight n 1 _ (by decide) (by simp only [byteAt]; go_num)), below_set HV.out.2 (Nat.le_refl _)⟩⟩
      · have cz := cz 2 (by omega)
        go_wp2
        go_roundg kq1
        case measure => omega
        case rel => exact ⟨3, rfl, ⟨by have := HT.out; omega, by omega⟩, ⟨blk_put HV.out.1 2 _ (put_eight n 2 _ (by decide) (by simp only [byteAt]; go_num)), below_set HV.out.2 (Nat.le_refl _)⟩⟩
      · have cz := cz 3 (by omega)
        go_wp2
        go_roundg kq1
        case measure => omega
        case rel => exact ⟨4, rfl, ⟨by have := HT.out; omega, by omega⟩, ⟨blk_put HV.out.1 3 _ (put_eight n 3 _ (by decide) (by simp only [byteAt]; go_num)), below_set HV.out.2 (Nat.le_refl _)⟩⟩
      · have cz := cz 4 (by omega)
        go_wp2
        go_roundg kq1
        case measure => omega
        case rel => exact ⟨5, rfl, ⟨by have := HT.out; omega, by omega⟩, ⟨blk_put HV.out.1 4 _ (put_eight n 4 _ (by decide) (by simp only [byteAt]; go_num)), below_set HV.out.2 (Nat.le_refl _)⟩⟩
      · have cz := cz 5 (by omega)
        go_wp2
        go_roundg kq1
        case measure => omega
        case rel => exact ⟨6, rfl, ⟨by have := HT.out; omega, by omega⟩, ⟨blk_put HV.out.1 5 _ (put_eight n 5 _ (by decide) (by simp only [byteAt]; go_num)), below_set HV.out.2 (Nat.le_refl _)⟩⟩
      · have cz := cz 6 (by omega)
        go_wp2
        go_roundg kq1
        case measure => omega
        case rel => exact ⟨7, rfl, ⟨by have := HT.out; omega, by omega⟩, ⟨blk_put HV.out.1 6 _ (put_eight n 6 _ (by decide) (by simp only [byteAt]; go_num)), below_set HV.out.2 (Nat.le_refl _)⟩⟩
      · have cz := cz 7 (by omega)
        go_wp2
        go_roundg kq1
        case measure => omega
        case rel => exact ⟨8, rfl, ⟨by have := HT.out; omega, by omega⟩, ⟨blk_put HV.out.1 7 _ (put_eight n 7 _ (by decide) (by simp only [byteAt]; go_num)), below_set HV.out.2 (Nat.le_refl _)⟩⟩
    · have q1' : ¬ (t : Int) < 8 := by omega
      obtain rfl : t = 8 := by have := HT.out; omega
      have hcv := string_of_reads (P := Tryd.prog) (c := 8) Tryd.underlying32 Tryd.underlying5 Tryd.underlying9 (row_reads HV.out.1 (by rw [eightL_len]))
      clear q1 q1'
      go_wp2
      go_ret
      exact ⟨rfl, HV.out.2⟩
end Go.Proofs.YtdnmllodefbekaaDoor.Au
end

section
namespace Go.Proofs.YtdnmllodefbekaaDoor.Au
open Go.RowKit Go.Lib Go.Shelf Go.Proofs.YtdnmllodefbekaaDoor.Sha Go.Proofs.YtdnmllodefbekaaDoorW.PrintWords Go.Proofs.YtdnmllodefbekaaDoorW.PrintLast Go.Proofs.YtdnmllodefbekaaDoorW.PrintMore
set_option linter.unusedVariables false
set_option linter.unusedSimpArgs false
def chalB : ByteArray := ⟨#[99, 104, 97, 108, 108, 101, 110, 103, 101]⟩
def chalS (draw num : Int) : ByteArray := strOfNums (shaL (bytesOf (chalB ++ eightS draw ++ eightS (IntKind.u64.wrap num))))
def proofS (key name ch : ByteArray) : ByteArray := strOfNums (macL (bytesOf key) (bytesOf (name ++ ⟨#[0]⟩ ++ ch)))
theorem eightS_size (n : Int) : (eightS n).size = 8 := by unfold eightS; rw [strOfNums_size', eightL_len]
theorem chalS_size (a b : Int) : (chalS a b).size = 32 := by unfold chalS; rw [strOfNums_size', shaL_len]
theorem proofS_size (a b c : ByteArray) : (proofS a b c).size = 32 := by unfold proofS macL; rw [strOfNums_size', shaL_len]
set_option maxRecDepth 100000 in
theorem chal_walk (a b : Int) (h0 : 0 ≤ a) (h1 : a < 18446744073709551616) (w : World) (hL : Laid w) (h2 : 2 ≤ w.heap.size) : Calls Tryd.prog 28 #[.int .u64 a, .int .i64 b] w fun e w' => e = .returned (.string (chalS a b)) ∧ Below w.heap.size w w' := by
  have HL := Aside0.mk hL
  have HN := Aside0.mk (And.intro h0 h1)
  clear hL h0 h1
  obtain ⟨E, hE⟩ : ∃ E, eightS a = E := ⟨_, rfl⟩
  obtain ⟨F, hF⟩ : ∃ F, eightS (IntKind.u64.wrap b) = F := ⟨_, rfl⟩
  have s1 : E.size = 8 := by rw [← hE]; exact eightS_size _
  have s2 : F.size = 8 := by rw [← hF]; exact eightS_size _
  have HE := Aside0.mk hE
  have HF := Aside0.mk hF
  rw [show chalS a b = strOfNums (shaL (bytesOf (chalB ++ E ++ F))) from by unfold chalS; rw [hE, hF]]
  clear hE hF
  have hz1 : ¬ 9223372036854775807 < chalB.size + E.size := by rw [s1]; decide
  have hz2 : ¬ 9223372036854775807 < chalB.size + E.size + F.size := by rw [s1, s2]; decide
  go_enter Tryd.func28, Tryd.ntmps28
  go_wp2_with fail
  refine (eight_walk _ HN.out.1 HN.out.2 _).mono ?_
  rw [HE.out]
  rintro e w1 ⟨rfl, hB1⟩
  have HB1 := Aside0.mk hB1
  clear hB1
  go_wp2_with fail
  refine (eight_walk _ (by rw [IntKind.wrap_u64]; omega) (by rw [IntKind.wrap_u64]; omega) _).mono ?_
  rw [HF.out]
  rintro e w2 ⟨rfl, hB2⟩
  have HB2 := Aside0.mk (below_step HB1.out hB2)
  clear hB2
  go_wp2_with fail
  refine (sha_walk _ _ (HL.out.step HB2.out h2) (Nat.le_trans h2 HB2.out.size) ?_).mono ?_
  · simp only [ByteArray.size_append, s1, s2]; decide
  rintro e w3 ⟨rfl, hB3⟩
  have HB3 := Aside0.mk (below_step HB2.out hB3)
  clear hB3
  go_wp2
  go_ret
  exact ⟨rfl, HB3.out⟩
set_option maxRecDepth 100000 in
theorem proof_walk (key name ch : ByteArray) (w : World) (hL : Laid w) (h2 : 2 ≤ w.heap.size) (hk : key.size ≤ 1000000000) (hn : name.size ≤ 400000000) (hc : ch.size ≤ 400000000) : Calls Tryd.prog 29 #[.string key, .string name, .string ch] w fun e w' => e = .returned (.string (proofS key name ch)) ∧ Below w.heap.size w w' := by
  have HL := Aside0.mk hL
  clear hL
  have s0 : (⟨#[0]⟩ : ByteArray).size = 1 := rfl
  have hz1 : ¬ 9223372036854775807 < name.size + (⟨#[0]⟩ : ByteArray).size := by omega
  have hz2 : ¬ 9223372036854775807 < name.size + (⟨#[0]⟩ : ByteArray).size + ch.size := by omega
  go_enter Tryd.func29, Tryd.ntmps29
  go_wp2_with fail
  refine (mac_walk _ _ _ HL.out h2 hk ?_).mono ?_
  · simp only [ByteArray.size_append]; omega
  rintro e w3 ⟨rfl, hB3⟩
  have HB3 := Aside0.mk hB3
  clear hB3
  go_wp2
  go_ret
  exact ⟨rfl, HB3.out⟩
end Go.Proofs.YtdnmllodefbekaaDoor.Au
end

section
namespace Go.Proofs.YtdnmllodefbekaaDoor.Au
open Go.RowKit Go.Lib Go.Shelf Go.Proofs.YtdnmllodefbekaaDoor.Sha Go.Proofs.YtdnmllodefbekaaDoorW.PrintWords Go.Proofs.YtdnmllodefbekaaDoorW.PrintLast Go.Proofs.YtdnmllodefbekaaDoorW.PrintMore
set_option linter.unusedVariables false
set_option linter.unusedSimpArgs false
/-- What a call leaves: all but the blocks of S. -/
structure Fr (S : Nat → Prop) (w w' : World) : Prop where
  os : w'.os = w.os
  tape : w'.tape = w.tape
  output : w'.output = w.output
  size : w.heap.size ≤ w'.heap.size
  block : ∀ k, k < w.heap.size → ¬ S k → w'.heap[k]? = w.heap[k]?
theorem Fr.refl (S : Nat → Prop) (w : World) : Fr S w w := ⟨rfl, rfl, rfl, Nat.le_refl _, fun _ _ _ => rfl⟩
theorem Fr.trans {S : Nat → Prop} {a b c : World} (h : Fr S a b) (k : Fr S b c) : Fr S a c := ⟨k.os.trans h.os, k.tape.trans h.tape, k.output.trans h.output, Nat.le_trans h.size k.size, fun i hi hn => (k.block i (Nat.lt_of_lt_of_le hi h.size) hn).trans (h.block i hi hn)⟩
theorem Fr.of_below {S : Nat → Prop} {a b : World} (h : Below a.heap.size a b) : Fr S a b := ⟨h.os, h.tape, h.output, h.size, fun i hi _ => h.block i hi⟩
theorem Fr.mono {S T : Nat → Prop} {a b : World} (h : Fr S a b) (hs : ∀ k, S k → T k) : Fr T a b := ⟨h.os, h.tape, h.output, h.size, fun i hi hn => h.block i hi fun hk => hn (hs i hk)⟩
theorem Fr.alloc {S : Nat → Prop} {a b : World} (h : Fr S a b) (o : Obj) : Fr S a (b.alloc o) := h.trans (Fr.of_below (below_alloc (Below.refl _ _) o))
theorem Fr.drew {S : Nat → Prop} {a b : World} (h : Fr S a b) : Fr S a b.drew := h.trans (Fr.of_below (below_drew (Below.refl _ _)))
theorem Fr.drewN {S : Nat → Prop} {a b : World} (h : Fr S a b) (n : Nat) : Fr S a (b.drewN n) := h.trans (Fr.of_below (pw_below_drewN (Below.refl _ _) n))
theorem Fr.grown {S : Nat → Prop} {a b c : World} (h : Fr S a b) {r : Nat} (hg : b.grownBy c (some r)) (hr : S r) : Fr S a c :=
  h.trans ⟨hg.os, hg.tape, hg.output, hg.size, fun i hi hn => hg.block i hi fun e => hn (by cases e; exact hr)⟩
theorem Fr.below {S : Nat → Prop} {w0 a b : World} (h : Fr S a b) (hb : Below w0.heap.size w0 a) (hS : ∀ k, S k → w0.heap.size ≤ k) : Below w0.heap.size w0 b :=
  ⟨h.os.trans hb.os, h.tape.trans hb.tape, h.output.trans hb.output, Nat.le_trans hb.size h.size, fun k hk => (h.block k (Nat.lt_of_lt_of_le hk hb.size) fun hs => absurd (hS k hs) (by omega)).trans (hb.block k hk)⟩
def strD {H : Type} (s : ByteArray) : DataW H := .lit (.string s.data.toList)
def strR {H : Type} : Value → Option (DataW H × List MemPlace)
  | .string s => some (strD s, [])
  | _ => none
theorem strR_mk {H : Type} (s : ByteArray) : strR (H := H) (.string s) = some (strD s, []) := rfl
theorem strD_inj {H : Type} {s t : ByteArray} (h : strD (H := H) s = strD t) : s = t := by
  unfold strD at h
  simp only [DataW.lit.injEq, Lit.string.injEq] at h
  exact ByteArray.ext (Array.toList_inj.1 h)
theorem strR_inv {H : Type} {v : Value} {s : ByteArray} {ps : List MemPlace} (h : strR (H := H) v = some (strD s, ps)) : v = .string s := by
  unfold strR at h
  split at h
  · obtain rfl := strD_inj (Prod.mk.inj (Option.some.inj h)).1
    rfl
  · cases h
abbrev Ks := FM.T ByteArray
abbrev Own (W : World) (b : Nat) (m : Ks) : Prop := W.ownsMap (H := Unit) Tryd.prog 9 strR b m.length (FM.toD strD m)
theorem own_tight {W : World} {b n : Nat} {m : Ks} (h : W.ownsMap (H := Unit) Tryd.prog 9 strR b n (FM.toD strD m)) : Own W b m := by
  obtain ⟨es, cl, h1, h2, h3, h4⟩ := h
  refine ⟨es, cl, h1, h2, ?_, h4⟩
  have := congrArg Maps.size h4
  rw [FM.toD_size, Maps.size_eq, length_sorted] at this
  rw [this]
  simp
theorem own_move {W W1 : World} {b : Nat} {m : Ks} (h : Own W b m) (hb : W1.heap[b]? = W.heap[b]?) : Own W1 b m := by
  obtain ⟨es, cl, h1, h2⟩ := h
  exact ⟨es, cl, hb.trans h1, h2⟩
theorem zero9 (w : World) : (zeroValue 9).run Tryd.prog w = .ok (.string ⟨#[]⟩) w := by kernel_rfl
theorem key9 (s : ByteArray) (hs : s.size ≤ maxLen) : keyOf Tryd.prog 9 (.string s) = some (.string s.data.toList) := by
  simp [keyOf, mapKey, Tryd.underlying9, hs]
section
variable {ops : Array Oper} {rest : List Oper} {o : Oper} {a : Act} {Q : Exit → Act → World → Prop} {W : World}
theorem step_look (hg : o.guard = none) (m x : Operand) (hop : o.op = Op.lookup 61 m x true) (b : Nat) (fs : Ks) (hm : a.eval m = .map (some b)) (hown : Own W b fs) (s : ByteArray) (hx : a.eval x = .string s) (hs : s.size ≤ maxLen)
    (hK : wpList Tryd.prog ops Q rest (a.put o.dst (.tuple #[.string ((FM.get fs s.data.toList).getD ⟨#[]⟩), .bool (FM.get fs s.data.toList).isSome])) W) : wpList Tryd.prog ops Q (o :: rest) a W := by
  refine wpList_lookup_own_ok W hg m x 61 hop 9 9 (Go.Maps.string_keyed Tryd.underlying9) Tryd.underlying61 strR (zero9 W) (strD ⟨#[]⟩) [] (strR_mk _) b fs.length _ hm hown (.string s) (.string s.data.toList) hx (key9 s hs) ?_
  intro v ps hv
  rw [FM.toD_at] at hv
  rw [FM.toD_has, strR_inv hv]
  exact hK
theorem step_put (hg : o.guard = none) (m x v : Operand) (hop : o.op = Op.mapUpdate 61 m x v) (b : Nat) (fs : Ks) (hm : a.eval m = .map (some b)) (hown : Own W b fs) (hn : fs.length ≤ 1000000) (s f : ByteArray) (hx : a.eval x = .string s) (hv : a.eval v = .string f) (hs : s.size ≤ maxLen)
    (hK : ∀ W1, Own W1 b (FM.put fs s.data.toList f) → W.grownBy W1 (some b) → wpList Tryd.prog ops Q rest (a.put o.dst undef) W1) : wpList Tryd.prog ops Q (o :: rest) a W := by
  refine wpList_mapUpdate_own W hg m x v 61 hop 9 9 (Go.Maps.string_keyed Tryd.underlying9) Tryd.underlying61 strR b fs.length _ hm hown (by unfold maxLen; omega) (.string s) (.string f) (.string s.data.toList) hx hv (key9 s hs) (strD f) [] (strR_mk f) ?_
  intro W1 h1 h2
  rw [FM.toD_put] at h1
  exact hK W1 (own_tight h1) h2
theorem step_del (hg : o.guard = none) (m x : Operand) (hop : o.op = Op.call { callee := Callee.builtin Builtin.delete, args := #[m, x], argTypes := #[61, 9] }) (b : Nat) (fs : Ks) (hm : a.eval m = .map (some b)) (hown : Own W b fs) (s : ByteArray) (hx : a.eval x = .string s) (hs : s.size ≤ maxLen)
    (hK : ∀ W1, Own W1 b (FM.del fs s.data.toList) → W.grownBy W1 (some b) → wpList Tryd.prog ops Q rest (a.put o.dst (.tuple #[])) W1) : wpList Tryd.prog ops Q (o :: rest) a W := by
  refine wpList_delete_own W hg m x 61 9 hop 9 (Go.Maps.string_keyed Tryd.underlying9) Tryd.underlying61 strR b fs.length _ hm hown (.string s) (.string s.data.toList) hx (key9 s hs) ?_
  intro W1 h1 h2
  rw [FM.toD_del] at h1
  refine hK W1 (own_tight h1) ?_
  obtain ⟨es, cl, es', cl', hb, rfl⟩ := h2
  exact ⟨rfl, rfl, rfl, by simp [ChangeMaps.setBlock], fun i _ hi => ChangeMaps.heap_setBlock_other hb _ (fun e => hi (by rw [e]))⟩
end
/-- Keys at block g, its map at block b. -/
structure IsAu (W : World) (g b : Nat) (m : Ks) : Prop where
  blk : W.heap[g]? = some (.cells #[.map (some b)] 79 (0, 0))
  own : Own W b m
  len : m.length ≤ 4096
  fine : ∀ p ∈ m, p.2.size ≤ 64
theorem IsAu.ne {W : World} {g b : Nat} {m : Ks} (h : IsAu W g b m) : g ≠ b := fun e => by
  obtain ⟨es, cl, hb, _⟩ := h.own
  rw [← e, h.blk] at hb
  cases hb
theorem IsAu.lt {W : World} {g b : Nat} {m : Ks} (h : IsAu W g b m) : g < W.heap.size ∧ b < W.heap.size := ⟨blk_lt h.blk, h.own.lt⟩
theorem IsAu.move {W W1 : World} {g b : Nat} {m : Ks} (h : IsAu W g b m) (h1 : W1.heap[g]? = W.heap[g]?) (h2 : W1.heap[b]? = W.heap[b]?) : IsAu W1 g b m := ⟨h1.trans h.blk, own_move h.own h2, h.len, h.fine⟩
theorem IsAu.fr {W W1 : World} {g b : Nat} {m : Ks} {S : Nat → Prop} (h : IsAu W g b m) (hf : Fr S W W1) (hg : ¬ S g) (hb : ¬ S b) : IsAu W1 g b m := h.move (hf.block g h.lt.1 hg) (hf.block b h.lt.2 hb)
theorem IsAu.below {W W1 : World} {g b : Nat} {m : Ks} (h : IsAu W g b m) (hb : Below W.heap.size W W1) : IsAu W1 g b m := h.move (hb.block g h.lt.1) (hb.block b h.lt.2)
abbrev Only (b : Nat) : Nat → Prop := fun k => k = b
theorem new_walk (w : World) : Calls Tryd.prog 25 #[] w fun e w' => e = .returned (.pointer (some ⟨w.heap.size + 1, 0, none⟩)) ∧ IsAu w' (w.heap.size + 1) w.heap.size [] ∧ Below w.heap.size w w' := by
  have hmm := @run_makeMap Tryd.prog
  go_enter Tryd.func25, Tryd.ntmps25
  go_wp2
  go_ret
  refine ⟨rfl, ⟨?_, ?_, by decide, fun p hp => by cases hp⟩, below_alloc (below_alloc (Below.refl _ _) _) _⟩
  · have := heap_alloc_new (w.alloc (.map #[] 0)) (.cells #[.map (some w.heap.size)] 79)
    rw [show (w.alloc (.map #[] 0)).heap.size = w.heap.size + 1 by simp] at this
    exact this
  · exact (World.ownsMap_made w Tryd.prog 9 strR).alloc _
def there (m : Ks) (s : ByteArray) : Bool := (FM.get m s.data.toList).isSome
def keyAt (m : Ks) (s : ByteArray) : ByteArray := (FM.get m s.data.toList).getD ⟨#[]⟩
def put (m : Ks) (n k : ByteArray) : Ks × Int :=
  if nameOk n = false then (m, 10)
  else if k.size = 0 ∨ 64 < k.size then (m, 2)
  else if there m n = false ∧ 4096 ≤ m.length then (m, 2)
  else (FM.put m n.data.toList k, 0)
def take (m : Ks) (n : ByteArray) : Ks × Int := if there m n = true then (FM.del m n.data.toList, 0) else (m, 5)
def check (m : Ks) (n c p : ByteArray) : Int := if p = proofS (keyAt m n) n c then (if there m n = true then 0 else 250) else 250
theorem keyAt_size {m : Ks} (h : ∀ p ∈ m, p.2.size ≤ 64) (s : ByteArray) : (keyAt m s).size ≤ 64 := by
  unfold keyAt
  cases hg : FM.get m s.data.toList with
  | none => exact Nat.zero_le _
  | some u => exact h _ (FM.mem_of_get hg)
theorem put_fine {m : Ks} (h : ∀ p ∈ m, p.2.size ≤ 64) (n : FM.Key) (k : ByteArray) (hk : k.size ≤ 64) : ∀ p ∈ FM.put m n k, p.2.size ≤ 64 := fun p hp => by
  rcases FM.mem_put.1 hp with rfl | ⟨hp, -⟩
  · exact hk
  · exact h p hp
theorem del_fine {m : Ks} (h : ∀ p ∈ m, p.2.size ≤ 64) (n : FM.Key) : ∀ p ∈ FM.del m n, p.2.size ≤ 64 := fun p hp => h p (FM.mem_del.1 hp).1
theorem put_len {m : Ks} (h : m.length ≤ 4096) (n : ByteArray) (k : ByteArray) (ht : there m n = true ∨ m.length < 4096) : (FM.put m n.data.toList k).length ≤ 4096 := by
  rcases ht with ht | ht
  · unfold there at ht
    obtain ⟨u, hu⟩ := Option.isSome_iff_exists.1 ht
    have := FM.len_put_old k hu
    omega
  · have := FM.len_put_new m n.data.toList k
    omega
theorem IsAu.put {W : World} {g b : Nat} {m : Ks} (h : IsAu W g b m) {W1 : World} {n k : ByteArray} (ho : Own W1 b (FM.put m n.data.toList k)) (hg : W.grownBy W1 (some b)) (hk : k.size ≤ 64) (ht : there m n = true ∨ m.length < 4096) : IsAu W1 g b (FM.put m n.data.toList k) :=
  ⟨(hg.block g h.lt.1 fun e => h.ne (by cases e; rfl)).trans h.blk, ho, put_len h.len n k ht, put_fine h.fine _ k hk⟩
theorem IsAu.del {W : World} {g b : Nat} {m : Ks} (h : IsAu W g b m) {W1 : World} {n : ByteArray} (ho : Own W1 b (FM.del m n.data.toList)) (hg : W.grownBy W1 (some b)) : IsAu W1 g b (FM.del m n.data.toList) :=
  ⟨(hg.block g h.lt.1 fun e => h.ne (by cases e; rfl)).trans h.blk, ho, Nat.le_trans (FM.len_del _ _) h.len, del_fine h.fine _⟩
end Go.Proofs.YtdnmllodefbekaaDoor.Au
end

section
namespace Go.Proofs.YtdnmllodefbekaaDoor.Au
open Go.RowKit Go.Lib Go.Shelf Go.Proofs.YtdnmllodefbekaaDoor.Sha Go.Proofs.YtdnmllodefbekaaDoorW.PrintWords Go.Proofs.YtdnmllodefbekaaDoorW.PrintLast Go.Proofs.YtdnmllodefbekaaDoorW.PrintMore
set_option linter.unusedVariables false
set_option linter.unusedSimpArgs false
set_option maxRecDepth 100000 in
set_option maxHeartbeats 1000000 in
theorem take_walk (W : World) (g b : Nat) (m : Ks) (h : IsAu W g b m) (s : ByteArray) (hs : s.size ≤ maxLen) : Calls Tryd.prog 31 #[.pointer (some ⟨g, 0, none⟩), .string s] W fun e W' => e = .returned (.int .i64 (take m s).2) ∧ IsAu W' g b (take m s).1 ∧ Fr (Only b) W W' := by
  have HI := Aside0.mk h
  have c0 := (blk_cell h.blk 0).trans (show _ = some (Value.map (some b)) from rfl)
  clear h
  cases hT : there m s with
  | false =>
    have HT := Aside0.mk (show (FM.get m s.data.toList).isSome = false from hT)
    rw [show take m s = (m, 5) from by unfold take; rw [hT]; rfl]
    clear hT
    go_enter Tryd.func31, Tryd.ntmps31
    go_wp2_with (first | (at_lookup; refine step_look rfl _ _ rfl b m rfl HI.out.own s rfl hs ?_; rw [HT.out]))
    go_ret
    exact ⟨rfl, HI.out, Fr.refl _ _⟩
  | true =>
    have HT := Aside0.mk (show (FM.get m s.data.toList).isSome = true from hT)
    rw [show take m s = (FM.del m s.data.toList, 0) from by unfold take; rw [hT]; rfl]
    clear hT
    go_enter Tryd.func31, Tryd.ntmps31
    go_wp2_with (first | (at_lookup; refine step_look rfl _ _ rfl b m rfl HI.out.own s rfl hs ?_; rw [HT.out]) | (refine step_del rfl _ _ rfl b m rfl HI.out.own s rfl hs ?_; intro W1 ho hg; have HD := Aside0.mk (And.intro (HI.out.del ho hg) ((Fr.refl (Only b) W).grown hg rfl)); clear ho hg))
    go_ret
    exact ⟨rfl, HD.out⟩
set_option maxRecDepth 100000 in
set_option maxHeartbeats 1000000 in
theorem check_walk (W : World) (g b : Nat) (m : Ks) (h : IsAu W g b m) (hL : Laid W) (h2 : 2 ≤ W.heap.size) (s c p : ByteArray) (hs : s.size ≤ 400000000) (hc : c.size ≤ 400000000) (hp : p.size ≤ 140737488351232) : Calls Tryd.prog 30 #[.pointer (some ⟨g, 0, none⟩), .string s, .string c, .string p] W fun e W' => e = .returned (.int .i64 (check m s c p)) ∧ Below W.heap.size W W' := by
  have HI := Aside0.mk h
  have HL := Aside0.mk hL
  have c0 := (blk_cell h.blk 0).trans (show _ = some (Value.map (some b)) from rfl)
  have hks := keyAt_size h.fine s
  unfold check
  obtain ⟨K, hK⟩ : ∃ K, keyAt m s = K := ⟨_, rfl⟩
  obtain ⟨T, hT⟩ : ∃ T, there m s = T := ⟨_, rfl⟩
  obtain ⟨P, hP⟩ : ∃ P, proofS K s c = P := ⟨_, rfl⟩
  rw [hK] at hks ⊢
  rw [hT, hP]
  have HK := Aside0.mk (show (FM.get m s.data.toList).getD ⟨#[]⟩ = K from hK)
  have HT := Aside0.mk (show (FM.get m s.data.toList).isSome = T from hT)
  have HP := Aside0.mk hP
  clear h hL hK hT hP
  by_cases q : p = P
  · rw [if_pos q]
    have HD := Aside0.mk (show decide (p = P) = true from decide_eq_true q)
    clear q
    cases T with
    | true =>
      rw [if_pos rfl]
      go_enter Tryd.func30, Tryd.ntmps30
      go_wp2_with (first | (at_lookup; refine step_look rfl _ _ rfl b m rfl HI.out.own s rfl (by unfold maxLen; omega) ?_; rw [HT.out, HK.out]))
      refine (proof_walk K s c _ HL.out h2 (by omega) hs hc).mono ?_
      rw [HP.out]
      rintro e w1 ⟨rfl, hB1⟩
      have HB1 := Aside0.mk hB1
      clear hB1
      go_wp2_with fail
      refine (equal_walk p P _ hp).mono ?_
      rw [HD.out]
      rintro e w2 ⟨rfl, hD⟩
      have HB2 := Aside0.mk (below_step HB1.out (hD.below))
      clear hD
      go_wp2
      go_ret
      exact ⟨rfl, HB2.out⟩
    | false =>
      rw [if_neg (by decide)]
      go_enter Tryd.func30, Tryd.ntmps30
      go_wp2_with (first | (at_lookup; refine step_look rfl _ _ rfl b m rfl HI.out.own s rfl (by unfold maxLen; omega) ?_; rw [HT.out, HK.out]))
      refine (proof_walk K s c _ HL.out h2 (by omega) hs hc).mono ?_
      rw [HP.out]
      rintro e w1 ⟨rfl, hB1⟩
      have HB1 := Aside0.mk hB1
      clear hB1
      go_wp2_with fail
      refine (equal_walk p P _ hp).mono ?_
      rw [HD.out]
      rintro e w2 ⟨rfl, hD⟩
      have HB2 := Aside0.mk (below_step HB1.out (hD.below))
      clear hD
      go_wp2
      go_ret
      exact ⟨rfl, HB2.out⟩
  · rw [if_neg q]
    have HD := Aside0.mk (show decide (p = P) = false from decide_eq_false q)
    clear q
    go_enter Tryd.func30, Tryd.ntmps30
    go_wp2_with (first | (at_lookup; refine step_look rfl _ _ rfl b m rfl HI.out.own s rfl (by unfold maxLen; omega) ?_; rw [HT.out, HK.out]))
    refine (proof_walk K s c _ HL.out h2 (by omega) hs hc).mono ?_
    rw [HP.out]
    rintro e w1 ⟨rfl, hB1⟩
    have HB1 := Aside0.mk hB1
    clear hB1
    go_wp2_with fail
    refine (equal_walk p P _ hp).mono ?_
    rw [HD.out]
    rintro e w2 ⟨rfl, hD⟩
    have HB2 := Aside0.mk (below_step HB1.out (hD.below))
    clear hD
    go_wp2
    go_ret
    exact ⟨rfl, HB2.out⟩
end Go.Proofs.YtdnmllodefbekaaDoor.Au
end

section
namespace Go.Proofs.YtdnmllodefbekaaDoor.Au
open Go.RowKit Go.Lib Go.Shelf Go.Proofs.YtdnmllodefbekaaDoor.Sha Go.Proofs.YtdnmllodefbekaaDoorW.PrintWords Go.Proofs.YtdnmllodefbekaaDoorW.PrintLast Go.Proofs.YtdnmllodefbekaaDoorW.PrintMore
set_option linter.unusedVariables false
set_option linter.unusedSimpArgs false
set_option maxRecDepth 100000 in
set_option maxHeartbeats 2000000 in
theorem put_walk (W : World) (g b : Nat) (m : Ks) (h : IsAu W g b m) (s k : ByteArray) (hs : s.size ≤ maxLen) : Calls Tryd.prog 27 #[.pointer (some ⟨g, 0, none⟩), .string s, .string k] W fun e W' => e = .returned (.int .i64 (put m s k).2) ∧ IsAu W' g b (put m s k).1 ∧ Fr (Only b) W W' := by
  have HI := Aside0.mk h
  have hml : m.length ≤ 1000000 := by have := h.len; omega
  clear h
  cases hN : nameOk s with
  | false =>
    have HN := Aside0.mk hN
    rw [show put m s k = (m, 10) from by unfold put; rw [hN]; rfl]
    clear hN
    go_enter Tryd.func27, Tryd.ntmps27
    go_wp2_with fail
    refine (may_walk s _ hs).mono ?_
    rw [HN.out]
    rintro e w1 ⟨rfl, hB1⟩
    have HI1 := Aside0.mk (HI.out.below hB1)
    have HF1 := Aside0.mk (Fr.of_below (S := Only b) hB1)
    have c1 := (blk_cell HI1.out.blk 0).trans (show _ = some (Value.map (some b)) from rfl)
    clear hB1
    go_wp2_with fail
    go_ret
    exact ⟨rfl, HI1.out, HF1.out⟩
  | true =>
    have HN := Aside0.mk hN
    by_cases q0 : k.size = 0
    · rw [show put m s k = (m, 2) from by unfold put; rw [hN, if_neg (by decide), if_pos (.inl q0)]]
      obtain rfl : k = ⟨#[]⟩ := ByteArray.ext (Array.eq_empty_of_size_eq_zero q0)
      clear hN q0
      obtain ⟨u, hu⟩ : ∃ u, FM.get m s.data.toList = u := ⟨_, rfl⟩
      have HT := Aside0.mk hu
      clear hu
      go_enter Tryd.func27, Tryd.ntmps27
      go_wp2_with fail
      refine (may_walk s _ hs).mono ?_
      rw [HN.out]
      rintro e w1 ⟨rfl, hB1⟩
      have HI1 := Aside0.mk (HI.out.below hB1)
      have HF1 := Aside0.mk (Fr.of_below (S := Only b) hB1)
      have c1 := (blk_cell HI1.out.blk 0).trans (show _ = some (Value.map (some b)) from rfl)
      clear hB1
      go_wp2_with (first | (at_lookup; refine step_look rfl _ _ rfl b m rfl HI1.out.own s rfl hs ?_; rw [HT.out]))
      go_ret
      exact ⟨rfl, HI1.out, HF1.out⟩
    · have k0 : k.toList.isEmpty = false := by
        rw [ByteArray.toList_eq]
        have : k.data.toList ≠ [] := fun e => q0 (by have := congrArg List.length e; simpa using this)
        simpa using this
      have k0' : k.toList ≠ [] := by simpa using k0
      by_cases q1 : 64 < k.size
      · rw [show put m s k = (m, 2) from by unfold put; rw [hN, if_neg (by decide), if_pos (.inr q1)]]
        have q1' : (64 : Int) < (k.size : Int) := by omega
        obtain ⟨u, hu⟩ : ∃ u, FM.get m s.data.toList = u := ⟨_, rfl⟩
        have HT := Aside0.mk hu
        clear hu hN q0 q1
        go_enter Tryd.func27, Tryd.ntmps27
        go_wp2_with fail
        refine (may_walk s _ hs).mono ?_
        rw [HN.out]
        rintro e w1 ⟨rfl, hB1⟩
        have HI1 := Aside0.mk (HI.out.below hB1)
        have HF1 := Aside0.mk (Fr.of_below (S := Only b) hB1)
        have c1 := (blk_cell HI1.out.blk 0).trans (show _ = some (Value.map (some b)) from rfl)
        clear hB1
        go_wp2_with (first | (at_lookup; refine step_look rfl _ _ rfl b m rfl HI1.out.own s rfl hs ?_; rw [HT.out]))
        go_ret
        exact ⟨rfl, HI1.out, HF1.out⟩
      · have q1' : (k.size : Int) ≤ 64 := by omega
        have HK := Aside0.mk (show k.size ≤ 64 by omega)
        have hE : put m s k = if there m s = false ∧ 4096 ≤ m.length then (m, 2) else (FM.put m s.data.toList k, 0) := by unfold put; rw [hN, if_neg (by decide), if_neg (by omega)]
        cases hu : FM.get m s.data.toList with
        | some u =>
          have ht : there m s = true := by unfold there; rw [hu]; rfl
          rw [if_neg (by rw [ht]; simp)] at hE
          rw [hE]
          have HT := Aside0.mk hu
          have HM := Aside0.mk (show there m s = true ∨ m.length < 4096 from .inl ht)
          clear hu ht hE hN q0 q1
          go_enter Tryd.func27, Tryd.ntmps27
          go_wp2_with fail
          refine (may_walk s _ hs).mono ?_
          rw [HN.out]
          rintro e w1 ⟨rfl, hB1⟩
          have HI1 := Aside0.mk (HI.out.below hB1)
          have HF1 := Aside0.mk (Fr.of_below (S := Only b) hB1)
          have c1 := (blk_cell HI1.out.blk 0).trans (show _ = some (Value.map (some b)) from rfl)
          clear hB1
          go_wp2_with (first | (at_lookup; refine step_look rfl _ _ rfl b m rfl HI1.out.own s rfl hs ?_; rw [HT.out]) | (refine step_put rfl _ _ _ rfl b m rfl HI1.out.own hml s k rfl rfl hs ?_; intro W1 ho hg; have HD := Aside0.mk (And.intro (HI1.out.put ho hg HK.out HM.out) (HF1.out.grown hg rfl)); clear ho hg))
          go_ret
          exact ⟨rfl, HD.out⟩
        | none =>
          have ht : there m s = false := by unfold there; rw [hu]; rfl
          have HT := Aside0.mk hu
          by_cases hm : 4096 ≤ m.length
          · rw [if_pos ⟨ht, hm⟩] at hE
            rw [hE]
            have hm' : (4096 : Int) ≤ (m.length : Int) := by omega
            clear hu ht hE hN q0 q1 hm
            go_enter Tryd.func27, Tryd.ntmps27
            go_wp2_with fail
            refine (may_walk s _ hs).mono ?_
            rw [HN.out]
            rintro e w1 ⟨rfl, hB1⟩
            have HI1 := Aside0.mk (HI.out.below hB1)
            have HF1 := Aside0.mk (Fr.of_below (S := Only b) hB1)
            have c1 := (blk_cell HI1.out.blk 0).trans (show _ = some (Value.map (some b)) from rfl)
            have hlen := HI1.out.own.len Tryd.underlying61 3
            rw [FM.toD_size] at hlen
            clear hB1
            go_wp2_with (first | (at_lookup; refine step_look rfl _ _ rfl b m rfl HI1.out.own s rfl hs ?_; rw [HT.out]))
            go_ret
            exact ⟨rfl, HI1.out, HF1.out⟩
          · rw [if_neg (by omega)] at hE
            rw [hE]
            have HM := Aside0.mk (show there m s = true ∨ m.length < 4096 from .inr (by omega))
            have hm' : (m.length : Int) < 4096 := by omega
            clear hu ht hE hN q0 q1 hm
            go_enter Tryd.func27, Tryd.ntmps27
            go_wp2_with fail
            refine (may_walk s _ hs).mono ?_
            rw [HN.out]
            rintro e w1 ⟨rfl, hB1⟩
            have HI1 := Aside0.mk (HI.out.below hB1)
            have HF1 := Aside0.mk (Fr.of_below (S := Only b) hB1)
            have c1 := (blk_cell HI1.out.blk 0).trans (show _ = some (Value.map (some b)) from rfl)
            have hlen := HI1.out.own.len Tryd.underlying61 3
            rw [FM.toD_size] at hlen
            clear hB1
            go_wp2_with (first | (at_lookup; refine step_look rfl _ _ rfl b m rfl HI1.out.own s rfl hs ?_; rw [HT.out]) | (refine step_put rfl _ _ _ rfl b m rfl HI1.out.own hml s k rfl rfl hs ?_; intro W1 ho hg; have HD := Aside0.mk (And.intro (HI1.out.put ho hg HK.out HM.out) (HF1.out.grown hg rfl)); clear ho hg))
            go_ret
            exact ⟨rfl, HD.out⟩
end Go.Proofs.YtdnmllodefbekaaDoor.Au
end

section
namespace Go.Proofs.YtdnmllodefbekaaDoor.Au
open Go.RowKit Go.Lib Go.Shelf Go.Proofs.YtdnmllodefbekaaDoor.Sha Go.Proofs.YtdnmllodefbekaaDoorW.PrintWords Go.Proofs.YtdnmllodefbekaaDoorW.PrintLast Go.Proofs.YtdnmllodefbekaaDoorW.PrintMore
set_option linter.unusedVariables false
set_option linter.unusedSimpArgs false
theorem chal_ev : shaL [99, 104, 97, 108, 108, 101, 110, 103, 101, 5, 0, 0, 0, 0, 0, 0, 0, 0, 0, 0, 0, 0, 0, 0, 0] = [23, 156, 230, 165, 206, 89, 96, 92, 138, 124, 29, 221, 224, 20, 108, 145, 143, 138, 167, 192, 19, 102, 174, 44, 233, 98, 149, 159, 9, 231, 92, 221] := by decide +kernel
theorem mack_ev : macL [107] [97, 110, 110, 0, 23, 156, 230, 165, 206, 89, 96, 92, 138, 124, 29, 221, 224, 20, 108, 145, 143, 138, 167, 192, 19, 102, 174, 44, 233, 98, 149, 159, 9, 231, 92, 221] = [251, 122, 168, 113, 115, 105, 215, 247, 170, 19, 237, 238, 11, 154, 163, 36, 215, 240, 25, 98, 40, 148, 204, 213, 128, 143, 23, 93, 51, 248, 70, 114] := by decide +kernel
theorem macx_ev : macL [120] [97, 110, 110, 0, 23, 156, 230, 165, 206, 89, 96, 92, 138, 124, 29, 221, 224, 20, 108, 145, 143, 138, 167, 192, 19, 102, 174, 44, 233, 98, 149, 159, 9, 231, 92, 221] = [138, 4, 130, 22, 246, 157, 224, 27, 94, 103, 195, 241, 98, 22, 139, 130, 78, 78, 251, 0, 243, 62, 44, 159, 100, 232, 186, 147, 20, 186, 58, 84] := by decide +kernel
def annB : ByteArray := ⟨#[97, 110, 110]⟩
def bobB : ByteArray := ⟨#[98, 111, 98]⟩
theorem eightL_byte (n : Int) (k : Nat) : ∀ x ∈ eightL n k, 0 ≤ x ∧ x < 256 := fun x hx => by
  unfold eightL at hx
  obtain ⟨i, -, rfl⟩ := List.mem_map.1 hx
  unfold byteAt
  split <;> omega
theorem bytesOf_eight (n : Int) : bytesOf (eightS n) = eightL n 8 := bytesOf_strOfNums _ (eightL_byte n 8)
theorem chal_in : bytesOf (chalB ++ eightS 5 ++ eightS (IntKind.u64.wrap 0)) = [99, 104, 97, 108, 108, 101, 110, 103, 101, 5, 0, 0, 0, 0, 0, 0, 0, 0, 0, 0, 0, 0, 0, 0, 0] := by
  rw [bytesOf_append, bytesOf_append, bytesOf_eight, bytesOf_eight]
  decide +kernel
theorem bytesOf_chal : bytesOf (chalS 5 0) = [23, 156, 230, 165, 206, 89, 96, 92, 138, 124, 29, 221, 224, 20, 108, 145, 143, 138, 167, 192, 19, 102, 174, 44, 233, 98, 149, 159, 9, 231, 92, 221] := by
  unfold chalS
  rw [chal_in, bytesOf_shaL, chal_ev]
theorem mac_in : bytesOf (annB ++ ⟨#[0]⟩ ++ chalS 5 0) = [97, 110, 110, 0, 23, 156, 230, 165, 206, 89, 96, 92, 138, 124, 29, 221, 224, 20, 108, 145, 143, 138, 167, 192, 19, 102, 174, 44, 233, 98, 149, 159, 9, 231, 92, 221] := by
  rw [bytesOf_append, bytesOf_append, bytesOf_chal]
  decide +kernel
theorem proofs_ne : proofS ⟨#[120]⟩ annB (chalS 5 0) ≠ proofS ⟨#[107]⟩ annB (chalS 5 0) := by
  unfold proofS
  rw [mac_in, show bytesOf ⟨#[120]⟩ = [120] from rfl, show bytesOf ⟨#[107]⟩ = [107] from rfl, mack_ev, macx_ev]
  intro h
  have := congrArg bytesOf h
  rw [bytesOf_strOfNums _ (by decide), bytesOf_strOfNums _ (by decide)] at this
  revert this
  decide
def annM : Ks := [(annB.data.toList, ⟨#[107]⟩)]
theorem ann_put : put [] annB ⟨#[107]⟩ = (annM, 0) := by kernel_rfl
theorem ann_c1 : check annM annB (chalS 5 0) (proofS ⟨#[107]⟩ annB (chalS 5 0)) = 0 := by
  unfold check
  rw [show keyAt annM annB = ⟨#[107]⟩ from rfl, if_pos rfl, show there annM annB = true from rfl, if_pos rfl]
theorem ann_c2 : check annM annB (chalS 5 0) (proofS ⟨#[120]⟩ annB (chalS 5 0)) = 250 := by
  unfold check
  rw [show keyAt annM annB = ⟨#[107]⟩ from rfl, if_neg proofs_ne]
theorem ann_c3 (p : ByteArray) : check annM bobB (chalS 5 0) p = 250 := by
  unfold check
  rw [show there annM bobB = false from rfl]
  split <;> rfl
set_option maxRecDepth 100000 in
set_option maxHeartbeats 2000000 in
theorem works_walk (w : World) (hL : Laid w) (h2 : 2 ≤ w.heap.size) : Calls Tryd.prog 26 #[] w fun e w' => e = .returned (.bool true) ∧ Below w.heap.size w w' := by
  have HL := Aside0.mk hL
  have HS := Aside0.mk (chalS_size 5 0)
  have H1 := Aside0.mk ann_c1
  have H2 := Aside0.mk ann_c2
  have H3 := Aside0.mk (ann_c3 (proofS ⟨#[107]⟩ bobB (chalS 5 0)))
  have p1 := proofS_size ⟨#[107]⟩ annB (chalS 5 0)
  have p2 := proofS_size ⟨#[120]⟩ annB (chalS 5 0)
  have p3 := proofS_size ⟨#[107]⟩ bobB (chalS 5 0)
  obtain ⟨P1, e1⟩ : ∃ P, proofS ⟨#[107]⟩ annB (chalS 5 0) = P := ⟨_, rfl⟩
  obtain ⟨P2, e2⟩ : ∃ P, proofS ⟨#[120]⟩ annB (chalS 5 0) = P := ⟨_, rfl⟩
  obtain ⟨P3, e3⟩ : ∃ P, proofS ⟨#[107]⟩ bobB (chalS 5 0) = P := ⟨_, rfl⟩
  rw [e1] at H1 p1
  rw [e2] at H2 p2
  rw [e3] at H3 p3
  obtain ⟨C, eC⟩ : ∃ C, chalS 5 0 = C := ⟨_, rfl⟩
  rw [eC] at e1 e2 e3 HS H1 H2 H3
  have E1 := Aside0.mk e1
  have E2 := Aside0.mk e2
  have E3 := Aside0.mk e3
  have EC := Aside0.mk eC
  have hs := HS.out
  have hs' : (C.size : Int) = 32 := by omega
  clear e1 e2 e3 eC hL
  go_enter Tryd.func26, Tryd.ntmps26
  go_wp2_with fail
  refine (new_walk w).mono ?_
  rintro e w1 ⟨rfl, hI1, hB1⟩
  have HI1 := Aside0.mk hI1
  have HB1 := Aside0.mk hB1
  clear hI1 hB1
  go_wp2_with fail
  refine (put_walk _ _ _ _ HI1.out annB ⟨#[107]⟩ (by decide)).mono ?_
  rw [ann_put]
  rintro e w2 ⟨rfl, hI2, hF2⟩
  have HI2 := Aside0.mk hI2
  have HB2 := Aside0.mk (hF2.below HB1.out fun k hk => Nat.le_of_eq hk.symm)
  clear hI2 hF2
  go_wp2_with fail
  refine (chal_walk 5 0 (by decide) (by decide) _ (HL.out.step HB2.out h2) (Nat.le_trans h2 HB2.out.size)).mono ?_
  rw [EC.out]
  rintro e w3 ⟨rfl, hB3⟩
  have HI3 := Aside0.mk (HI2.out.below hB3)
  have HB3 := Aside0.mk (below_step HB2.out hB3)
  clear hB3
  go_wp2_with fail
  refine (proof_walk ⟨#[107]⟩ annB C _ (HL.out.step HB3.out h2) (Nat.le_trans h2 HB3.out.size) (by decide) (by decide) (by omega)).mono ?_
  rw [E1.out]
  rintro e w4 ⟨rfl, hB4⟩
  have HI4 := Aside0.mk (HI3.out.below hB4)
  have HB4 := Aside0.mk (below_step HB3.out hB4)
  clear hB4
  go_wp2_with fail
  refine (check_walk _ _ _ _ HI4.out (HL.out.step HB4.out h2) (Nat.le_trans h2 HB4.out.size) annB C P1 (by decide) (by omega) (by omega)).mono ?_
  rw [H1.out]
  rintro e w5 ⟨rfl, hB5⟩
  have HI5 := Aside0.mk (HI4.out.below hB5)
  have HB5 := Aside0.mk (below_step HB4.out hB5)
  clear hB5
  go_wp2_with fail
  refine (proof_walk ⟨#[120]⟩ annB C _ (HL.out.step HB5.out h2) (Nat.le_trans h2 HB5.out.size) (by decide) (by decide) (by omega)).mono ?_
  rw [E2.out]
  rintro e w6 ⟨rfl, hB6⟩
  have HI6 := Aside0.mk (HI5.out.below hB6)
  have HB6 := Aside0.mk (below_step HB5.out hB6)
  clear hB6
  go_wp2_with fail
  refine (check_walk _ _ _ _ HI6.out (HL.out.step HB6.out h2) (Nat.le_trans h2 HB6.out.size) annB C P2 (by decide) (by omega) (by omega)).mono ?_
  rw [H2.out]
  rintro e w7 ⟨rfl, hB7⟩
  have HI7 := Aside0.mk (HI6.out.below hB7)
  have HB7 := Aside0.mk (below_step HB6.out hB7)
  clear hB7
  go_wp2_with fail
  refine (proof_walk ⟨#[107]⟩ bobB C _ (HL.out.step HB7.out h2) (Nat.le_trans h2 HB7.out.size) (by decide) (by decide) (by omega)).mono ?_
  rw [E3.out]
  rintro e w8 ⟨rfl, hB8⟩
  have HI8 := Aside0.mk (HI7.out.below hB8)
  have HB8 := Aside0.mk (below_step HB7.out hB8)
  clear hB8
  go_wp2_with fail
  refine (check_walk _ _ _ _ HI8.out (HL.out.step HB8.out h2) (Nat.le_trans h2 HB8.out.size) bobB C P3 (by decide) (by omega) (by omega)).mono ?_
  rw [H3.out]
  rintro e w9 ⟨rfl, hB9⟩
  have HB9 := Aside0.mk (below_step HB8.out hB9)
  clear hB9
  go_wp2
  go_ret
  exact ⟨rfl, HB9.out⟩
end Go.Proofs.YtdnmllodefbekaaDoor.Au
end

section
namespace Go.Proofs.YtdnmllodefbekaaDoor.Au
open Go.RowKit Go.Lib Go.Maps Go.Sort Go.Shelf Go.Proofs.YtdnmllodefbekaaDoor.Sha Go.Proofs.YtdnmllodefbekaaDoorW.PrintWords Go.Proofs.YtdnmllodefbekaaDoorW.PrintLast Go.Proofs.YtdnmllodefbekaaDoorW.PrintMore
set_option linter.unusedVariables false
set_option linter.unusedSimpArgs false
/-- slices.Sort's two contracts at this dump, at the fence that asks nothing. -/
theorem sorts54 (m : Nat) : AnyZ.SortsIn Tryd.prog Tryd.sorted54_ren Fence.wide m :=
  ⟨fun blk off cap ss W hH hblk hsz => callsIn_wide.2 (AnyM.slices_Sort_string Tryd.sort62 blk off cap ss W hH hblk hsz),
   fun p cap W => callsIn_wide.2 (AnyM.slices_Sort_string_none Tryd.sort62 p cap W)⟩
theorem maps_Keys_55 (mb : Option Nat) (W : World) : CallsIn Fence.wide 5 Tryd.prog 55 #[.map mb] W fun e w' => e = .returned (.func (.func 63) #[] #[.pointer (some ⟨W.heap.size, 0, none⟩)]) ∧ w' = W.alloc (.cells #[.map mb] 61) :=
  AnyZ.keys_in Tryd.keys55 Fence.wide 5 trivial rfl mb W
set_option maxHeartbeats 1000000 in
theorem slices_Sorted_keys {H : Type} (b nn : Nat) (D0 : DataW H) (R : Value → Option (DataW H × List MemPlace)) (w : World) (hown : w.ownsMap Tryd.prog 9 R b nn D0) (hmax : Maps.size D0 ≤ maxLen) (hbytes : Maps.size D0 * 16 ≤ 140737488355328) :
    CallsIn Fence.wide 5 Tryd.prog 54 #[.func (.func 63) #[] #[.pointer (some ⟨w.heap.size, 0, none⟩)]] (w.alloc (.cells #[.map (some b)] 61)) fun e w' => ∃ (v : Value) (ss : List (List UInt8)), e = .returned v ∧ ss.Perm (strKeys D0) ∧
      w'.ownsRow (w.alloc (.cells #[.map (some b)] 61)).heap.size 9 1 v ss.length ((ss.mergeSort (fun x y => decide (x ≤ y))).map encStr) ∧ (v = .slice none 0 0 ↔ ss = []) ∧ Below (w.alloc (.cells #[.map (some b)] 61)).heap.size (w.alloc (.cells #[.map (some b)] 61)) w' := by
  have hbl := hown.lt
  have hseq : SeqGives Fence.wide 2 Tryd.prog 63 #[.pointer (some ⟨w.heap.size, 0, none⟩)] encStr (fun ss => ss.Perm (strKeys D0)) (Maps.size D0) (w.alloc (.cells #[.map (some b)] 61)) :=
    AnyZ.keys_gives (ρ := Tryd.keys55_ren) { Tryd.keys55 with } Fence.wide _ trivial rfl (by omega) w.heap.size b nn D0 _ (by simp) (by simp) (by
      obtain ⟨es, clock, hb, Ft, hs, hD⟩ := hown
      exact ⟨es, clock, (Below.heap_alloc _ _ b hbl).trans hb, Ft, hs, hD⟩)
  exact AnyZ.sorted_in Tryd.sorted54 Fence.wide 5 trivial trivial trivial trivial rfl (by omega) (sorts54 _) (enters_of Tryd.func62 (by kernel_rfl) rfl) 63 #[.pointer (some ⟨w.heap.size, 0, none⟩)] trivial (enters_of Tryd.func63 (by kernel_rfl) rfl) _ _ hmax hbytes _ hseq
/-- The names as strings. -/
def nameL (m : Ks) : List ByteArray := (FM.names m).map fun k => ⟨k.toArray⟩
set_option maxHeartbeats 1000000 in
theorem names_walk (W : World) (g b : Nat) (m : Ks) (h : IsAu W g b m) : Calls Tryd.prog 39 #[.pointer (some ⟨g, 0, none⟩)] W fun e W' => ∃ v, e = .returned v ∧ W'.ownsRow W.heap.size 9 1 v (nameL m).length ((nameL m).map Value.string) ∧ Below W.heap.size W W' := by
  have HI := Aside0.mk h
  have c0 := (blk_cell h.blk 0).trans (show _ = some (Value.map (some b)) from rfl)
  have hmax : Maps.size (FM.toD (H := Unit) strD m) ≤ maxLen := by rw [FM.toD_size]; have := h.len; unfold maxLen; omega
  have hbytes : Maps.size (FM.toD (H := Unit) strD m) * 16 ≤ 140737488355328 := by rw [FM.toD_size]; have := h.len; omega
  have HM := Aside0.mk hmax
  have HBy := Aside0.mk hbytes
  clear h hmax hbytes
  refine (callsIn_wide (n := 6)).1 ?_
  have hfK : Fence.wide.fn 55 := trivial
  have hfS : Fence.wide.fn 54 := trivial
  refine callsIn_of_wp Tryd.func39 rfl trivial ?_ rfl
  simp only [Tryd.ntmps39, List.size_toArray, List.length_cons, List.length_nil, Nat.reduceAdd, Nat.reduceSub, Array.replicate_succ, Array.replicate_zero, List.push_toArray, List.append_toArray, List.nil_append, List.cons_append]
  gi_wp2_with (first
    | (gi_at_call 55; refine (maps_Keys_55 _ _).mono ?_; rintro e w' ⟨rfl, rfl⟩)
    | (gi_at_call 54; refine (slices_Sorted_keys b m.length (FM.toD (H := Unit) strD m) strR W HI.out.own HM.out HBy.out).mono ?_; rintro e w' ⟨v, ss, rfl, hS, hrow, hnil, hb⟩))
  go_ret
  refine ⟨v, rfl, ?_, ((Below.refl _ W).alloc (Nat.le_refl _) _).trans (hb.mono (by simp))⟩
  have e1 := FM.names_of hS
  rw [e1] at hrow
  have e2 : (nameL m).length = ss.length := by unfold nameL; rw [List.length_map, ← e1, List.length_mergeSort]
  have e3 : (nameL m).map Value.string = (FM.names m).map encStr := by unfold nameL; rw [List.map_map]; rfl
  rw [e2, e3]
  exact ownsRow_base_a hrow (by simp)
end Go.Proofs.YtdnmllodefbekaaDoor.Au
end

section
namespace Go.Proofs.YtdnmllodefbekaaDoor.Au
open Go.RowKit Go.Lib Go.Maps Go.Sort Go.Shelf
set_option linter.unusedVariables false
set_option linter.unusedSimpArgs false
def Nd (m : Ks) : Prop := (FM.keys m).Nodup
theorem ins_perm (x : FM.Key × ByteArray) : ∀ m : Ks, (FM.ins x m).Perm (x :: m)
  | [] => by simp [FM.ins]
  | y :: r => by
    unfold FM.ins
    split
    · exact List.Perm.refl _
    · exact ((ins_perm x r).cons y).trans (List.Perm.swap x y r)
theorem keys_del (m : Ks) (k : FM.Key) : FM.keys (FM.del m k) = (FM.keys m).filter fun x => !(x == k) := by
  unfold FM.keys FM.del
  rw [List.filter_map]
  rfl
theorem Nd.del {m : Ks} (h : Nd m) (k : FM.Key) : Nd (FM.del m k) := by
  unfold Nd
  rw [keys_del]
  exact List.Nodup.sublist List.filter_sublist h
theorem Nd.put {m : Ks} (h : Nd m) (k : FM.Key) (v : ByteArray) : Nd (FM.put m k v) := by
  unfold Nd FM.put
  have hp : (FM.keys (FM.ins (k, v) (FM.del m k))).Perm (k :: FM.keys (FM.del m k)) := (ins_perm (k, v) (FM.del m k)).map _
  refine hp.nodup_iff.2 (List.nodup_cons.2 ⟨?_, h.del k⟩)
  rw [keys_del]
  simp
theorem nd_nil : Nd [] := List.nodup_nil
theorem names_nodup {m : Ks} (h : Nd m) : (FM.names m).Nodup := (List.mergeSort_perm _ _).nodup_iff.2 h
/-- What is left of a map when the first i names have been taken away. -/
def rest (m : Ks) (i : Nat) : Ks := m.filter fun p => !(((FM.names m).take i).contains p.1)
theorem rest_zero (m : Ks) : rest m 0 = m := by
  unfold rest
  simp
theorem rest_succ (m : Ks) (i : Nat) (k : FM.Key) (h : (FM.names m)[i]? = some k) : FM.del (rest m i) k = rest m (i + 1) := by
  unfold rest FM.del
  rw [List.filter_filter]
  congr 1
  funext p
  rw [List.take_add_one, h]
  by_cases e : p.1 = k <;> simp [e]
theorem find_filter {p : FM.Key × ByteArray → Bool} {q : FM.Key × ByteArray → Bool} (h : ∀ x, q x = true → p x = true) : ∀ l : Ks, (l.filter p).find? q = l.find? q
  | [] => rfl
  | x :: r => by
    rw [List.filter_cons]
    split
    · rw [List.find?_cons, List.find?_cons, find_filter h r]
    · rename_i hx
      have : q x = false := by
        cases hq : q x with
        | false => rfl
        | true => exact absurd (h x hq) hx
      rw [List.find?_cons, this]
      exact find_filter h r
theorem rest_get {m : Ks} (hn : Nd m) (i : Nat) (k : FM.Key) (h : (FM.names m)[i]? = some k) : FM.get (rest m i) k = FM.get m k := by
  unfold FM.get rest
  rw [find_filter]
  intro x hx
  have hk : x.1 = k := by simpa using hx
  rw [hk]
  have hnd := names_nodup hn
  have : k ∉ (FM.names m).take i := fun hm => by
    obtain ⟨j, hj, e⟩ := List.mem_iff_getElem.1 hm
    rw [List.getElem_take] at e
    have hj' : j < i := by rw [List.length_take] at hj; omega
    obtain ⟨hi, e2⟩ := List.getElem?_eq_some_iff.1 h
    exact (List.pairwise_iff_getElem.1 hnd) j i (by omega) hi hj' (e.trans e2.symm)
  simpa using this
theorem get_there {m : Ks} (i : Nat) (k : FM.Key) (h : (FM.names m)[i]? = some k) : ∃ v, FM.get m k = some v := by
  obtain ⟨v, hv⟩ := FM.mem_names.1 (List.mem_of_getElem? h)
  obtain ⟨u, hu, _⟩ := FM.get_of_mem hv
  exact ⟨u, hu⟩
theorem rest_all (m : Ks) (i : Nat) (h : m.length ≤ i) : rest m i = [] := by
  unfold rest
  rw [List.filter_eq_nil_iff]
  intro p hp
  rw [List.take_of_length_le (by rw [FM.names_len]; exact h)]
  have : p.1 ∈ FM.names m := FM.mem_names.2 ⟨p.2, hp⟩
  simpa using this
theorem put_two (m : Ks) (n k : ByteArray) : (put m n k = (FM.put m n.data.toList k, 0)) ∨ ((put m n k).1 = m ∧ ((put m n k).2 = 10 ∨ (put m n k).2 = 2)) := by
  unfold put
  split
  · exact .inr ⟨rfl, .inl rfl⟩
  · split
    · exact .inr ⟨rfl, .inr rfl⟩
    · split
      · exact .inr ⟨rfl, .inr rfl⟩
      · exact .inl rfl
end Go.Proofs.YtdnmllodefbekaaDoor.Au
end

section
namespace Go.Proofs.YtdnmllodefbekaaDoor.Au
open Go.RowKit Go.Lib Go.Maps Go.Sort Go.Shelf Go.Proofs.YtdnmllodefbekaaDoor.Sha Go.Proofs.YtdnmllodefbekaaDoorW.PrintWords Go.Proofs.YtdnmllodefbekaaDoorW.PrintLast Go.Proofs.YtdnmllodefbekaaDoorW.PrintMore
set_option linter.unusedVariables false
set_option linter.unusedSimpArgs false
/-- A row of values at an address outside of S. -/
def RowAt {α : Type} (enc : α → Value) (d : α) (S : Nat → Prop) (W : World) (A : Option Addr) (xs : List α) : Prop :=
  xs.length ≤ maxLen ∧ (0 < xs.length → ∃ ad, A = some ad ∧ ¬ S ad.block ∧ ad.block < W.heap.size ∧ ∀ j, j < xs.length → W.cell? (ad.add j) = some (enc (xs.getD j d)))
section
variable {α : Type} {enc : α → Value} {d : α} {S : Nat → Prop} {W W1 : World} {A : Option Addr} {xs : List α}
theorem add_block' (ad : Addr) (j : Nat) : (ad.add j).block = ad.block := by
  obtain ⟨a, b, c⟩ := ad
  by_cases hj : j = 0 <;> simp [Addr.add, hj]
theorem RowAt.fr (h : RowAt enc d S W A xs) (hf : Fr S W W1) : RowAt enc d S W1 A xs := by
  refine ⟨h.1, fun hp => ?_⟩
  obtain ⟨ad, e, hn, hl, hc⟩ := h.2 hp
  refine ⟨ad, e, hn, Nat.lt_of_lt_of_le hl hf.size, fun j hj => ?_⟩
  rw [← hc j hj]
  exact World.cell?_of_block (by rw [add_block']; exact hf.block ad.block hl hn)
theorem RowAt.at_ (h : RowAt enc d S W A xs) (i : Nat) (hi : i < xs.length) : ∃ ad, A = some ad ∧ W.cell? (ad.add i) = some (enc (xs.getD i d)) := by
  obtain ⟨ad, e, _, _, hc⟩ := h.2 (by omega)
  exact ⟨ad, e, hc i hi⟩
theorem add_add (ad : Addr) (i j : Nat) : (ad.add i).add j = ad.add (i + j) := by
  obtain ⟨a, b, c⟩ := ad
  by_cases hi : i = 0 <;> by_cases hj : j = 0 <;> simp [Addr.add, hi, hj, Nat.add_assoc]
theorem RowAt.tail {x : α} {A1 : Option Addr} (h : RowAt enc d S W A (x :: xs)) (hA : 0 < xs.length → A1 = A.map (·.add (1 * 1))) : RowAt enc d S W A1 xs := by
  refine ⟨Nat.le_trans (Nat.le_succ _) h.1, fun hp => ?_⟩
  obtain ⟨ad, rfl, hn, hl, hc⟩ := h.2 (by simp)
  refine ⟨ad.add 1, by rw [hA hp]; rfl, by rw [add_block']; exact hn, by rw [add_block']; exact hl, fun j hj => ?_⟩
  have := hc (j + 1) (by simp; omega)
  rw [add_add, Nat.add_comm 1 j, this]
  simp [List.getD_eq_getElem?_getD]
end
theorem own_row {W : World} {base : Nat} {v : Value} {l : List ByteArray} {S : Nat → Prop} (h : W.ownsRow base 9 1 v l.length (l.map Value.string)) (hS : ∀ k, base ≤ k → ¬ S k) : ∃ A c, v = .slice A l.length c ∧ RowAt Value.string ByteArray.empty S W A l ∧ l.length ≤ c ∧ c ≤ maxLen := by
  rcases h.2 with ⟨rfl, h0⟩ | ⟨g, cap, cur, rfl, hb, hh, hnc, hcm, hcs, ht⟩
  · rw [h0]
    exact ⟨none, 0, rfl, ⟨by omega, fun hp => absurd hp (by omega)⟩, Nat.le_refl _, Nat.zero_le _⟩
  · refine ⟨some ⟨g, 0, none⟩, cap, rfl, ⟨Nat.le_trans hnc hcm, fun hp => ⟨_, rfl, hS g hb, blk_lt hh, fun j hj => ?_⟩⟩, hnc, hcm⟩
    rw [add_plain, blk_cell hh j]
    have e2 : cur[j]? = (cur.toList.take (l.length * 1))[j]? := by
      rw [List.getElem?_take, if_pos (by omega)]; simp
    rw [e2, ht, List.getElem?_map, List.getElem?_eq_getElem hj]
    simp [List.getD_eq_getElem?_getD, hj]

abbrev StrsAt := RowAt Value.string ByteArray.empty
theorem nameL_len (m : Ks) : (nameL m).length = m.length := by unfold nameL; rw [List.length_map, FM.names_len]
theorem nameL_at (m : Ks) (i : Nat) (h : i < m.length) : (FM.names m)[i]? = some ((nameL m).getD i ByteArray.empty).data.toList := by
  have hl : i < (FM.names m).length := by rw [FM.names_len]; exact h
  unfold nameL
  rw [List.getD_eq_getElem?_getD, List.getElem?_map, List.getElem?_eq_getElem hl]
  simp
theorem name_size {m : Ks} (hs : ∀ p ∈ m, p.1.length ≤ 100) (i : Nat) (h : i < m.length) : ((nameL m).getD i ByteArray.empty).size ≤ 100 := by
  have h1 := nameL_at m i h
  obtain ⟨v, hv⟩ := FM.mem_names.1 (List.mem_of_getElem? h1)
  have := hs _ hv
  rw [Array.length_toList] at this
  exact this
theorem names_sorted (m : Ks) : (FM.names m).Pairwise fun a b => a ≤ b := by
  have := List.pairwise_mergeSort (le := leB) (fun a b c h1 h2 => decide_eq_true (List.le_trans (of_decide_eq_true h1) (of_decide_eq_true h2))) (fun a b => by
    rcases List.le_total a b with h | h
    · simp [leB, h]
    · simp [leB, h]) (FM.keys m)
  exact this.imp fun h => of_decide_eq_true h
theorem names_less {m : Ks} (hn : Nd m) (j : Nat) (a b : FM.Key) (ha : (FM.names m)[j]? = some a) (hb : (FM.names m)[j + 1]? = some b) : Op.bytesLess a b = true := by
  rw [bytesLess_eq]
  obtain ⟨h1, rfl⟩ := List.getElem?_eq_some_iff.1 ha
  obtain ⟨h2, rfl⟩ := List.getElem?_eq_some_iff.1 hb
  have hle := (List.pairwise_iff_getElem.1 (names_sorted m)) j (j + 1) h1 h2 (by omega)
  have hne := (List.pairwise_iff_getElem.1 (names_nodup hn)) j (j + 1) h1 h2 (by omega)
  refine decide_eq_true ?_
  refine Decidable.byContradiction fun hlt => hne ?_
  exact List.le_antisymm hle (List.not_lt.1 hlt)
end Go.Proofs.YtdnmllodefbekaaDoor.Au
end
