import Derived.Test.YtdnmllodefbekaaDoorAu2
namespace Go.Proofs.YtdnmllodefbekaaDoor.Au
open Go.RowKit Go.Lib Go.Shelf Go.Proofs.YtdnmllodefbekaaDoor.Sha Go.Proofs.YtdnmllodefbekaaDoorW.PrintWords Go.Proofs.YtdnmllodefbekaaDoorW.PrintLast Go.Proofs.YtdnmllodefbekaaDoorW.PrintMore
set_option linter.unusedVariables false
set_option linter.unusedSimpArgs false
/-- What a call leaves: all but the blocks of S. -/
structure Fr (S : Nat → Prop) (w w' : World) : Prop where
  os : w'.os = w.os
  tape : w'.tape = w.tape
  output : w'.output = w.output
  size : w.heap.size ≤ w'.heap.size
  block : ∀ k, k < w.heap.size → ¬ S k → w'.heap[k]? = w.heap[k]?
theorem Fr.refl (S : Nat → Prop) (w : World) : Fr S w w := ⟨rfl, rfl, rfl, Nat.le_refl _, fun _ _ _ => rfl⟩
theorem Fr.trans {S : Nat → Prop} {a b c : World} (h : Fr S a b) (k : Fr S b c) : Fr S a c := ⟨k.os.trans h.os, k.tape.trans h.tape, k.output.trans h.output, Nat.le_trans h.size k.size, fun i hi hn => (k.block i (Nat.lt_of_lt_of_le hi h.size) hn).trans (h.block i hi hn)⟩
theorem Fr.of_below {S : Nat → Prop} {a b : World} (h : Below a.heap.size a b) : Fr S a b := ⟨h.os, h.tape, h.output, h.size, fun i hi _ => h.block i hi⟩
theorem Fr.mono {S T : Nat → Prop} {a b : World} (h : Fr S a b) (hs : ∀ k, S k → T k) : Fr T a b := ⟨h.os, h.tape, h.output, h.size, fun i hi hn => h.block i hi fun hk => hn (hs i hk)⟩
theorem Fr.alloc {S : Nat → Prop} {a b : World} (h : Fr S a b) (o : Obj) : Fr S a (b.alloc o) := h.trans (Fr.of_below (below_alloc (Below.refl _ _) o))
theorem Fr.drew {S : Nat → Prop} {a b : World} (h : Fr S a b) : Fr S a b.drew := h.trans (Fr.of_below (below_drew (Below.refl _ _)))
theorem Fr.drewN {S : Nat → Prop} {a b : World} (h : Fr S a b) (n : Nat) : Fr S a (b.drewN n) := h.trans (Fr.of_below (pw_below_drewN (Below.refl _ _) n))
theorem Fr.grown {S : Nat → Prop} {a b c : World} (h : Fr S a b) {r : Nat} (hg : b.grownBy c (some r)) (hr : S r) : Fr S a c :=
  h.trans ⟨hg.os, hg.tape, hg.output, hg.size, fun i hi hn => hg.block i hi fun e => hn (by cases e; exact hr)⟩
theorem Fr.below {S : Nat → Prop} {w0 a b : World} (h : Fr S a b) (hb : Below w0.heap.size w0 a) (hS : ∀ k, S k → w0.heap.size ≤ k) : Below w0.heap.size w0 b :=
  ⟨h.os.trans hb.os, h.tape.trans hb.tape, h.output.trans hb.output, Nat.le_trans hb.size h.size, fun k hk => (h.block k (Nat.lt_of_lt_of_le hk hb.size) fun hs => absurd (hS k hs) (by omega)).trans (hb.block k hk)⟩
def strD {H : Type} (s : ByteArray) : DataW H := .lit (.string s.data.toList)
def strR {H : Type} : Value → Option (DataW H × List MemPlace)
  | .string s => some (strD s, [])
  | _ => none
theorem strR_mk {H : Type} (s : ByteArray) : strR (H := H) (.string s) = some (strD s, []) := rfl
theorem strD_inj {H : Type} {s t : ByteArray} (h : strD (H := H) s = strD t) : s = t := by
  unfold strD at h
  simp only [DataW.lit.injEq, Lit.string.injEq] at h
  exact ByteArray.ext (Array.toList_inj.1 h)
theorem strR_inv {H : Type} {v : Value} {s : ByteArray} {ps : List MemPlace} (h : strR (H := H) v = some (strD s, ps)) : v = .string s := by
  unfold strR at h
  split at h
  · obtain rfl := strD_inj (Prod.mk.inj (Option.some.inj h)).1
    rfl
  · cases h
abbrev Ks := FM.T ByteArray
abbrev Own (W : World) (b : Nat) (m : Ks) : Prop := W.ownsMap (H := Unit) Tryd.prog 9 strR b m.length (FM.toD strD m)
theorem own_tight {W : World} {b n : Nat} {m : Ks} (h : W.ownsMap (H := Unit) Tryd.prog 9 strR b n (FM.toD strD m)) : Own W b m := by
  obtain ⟨es, cl, h1, h2, h3, h4⟩ := h
  refine ⟨es, cl, h1, h2, ?_, h4⟩
  have := congrArg Maps.size h4
  rw [FM.toD_size, Maps.size_eq, length_sorted] at this
  rw [this]
  simp
theorem own_move {W W1 : World} {b : Nat} {m : Ks} (h : Own W b m) (hb : W1.heap[b]? = W.heap[b]?) : Own W1 b m := by
  obtain ⟨es, cl, h1, h2⟩ := h
  exact ⟨es, cl, hb.trans h1, h2⟩
theorem zero9 (w : World) : (zeroValue 9).run Tryd.prog w = .ok (.string ⟨#[]⟩) w := by kernel_rfl
theorem key9 (s : ByteArray) (hs : s.size ≤ maxLen) : keyOf Tryd.prog 9 (.string s) = some (.string s.data.toList) := by
  simp [keyOf, mapKey, Tryd.underlying9, hs]
section
variable {ops : Array Oper} {rest : List Oper} {o : Oper} {a : Act} {Q : Exit → Act → World → Prop} {W : World}
theorem step_look (hg : o.guard = none) (m x : Operand) (hop : o.op = Op.lookup 61 m x true) (b : Nat) (fs : Ks) (hm : a.eval m = .map (some b)) (hown : Own W b fs) (s : ByteArray) (hx : a.eval x = .string s) (hs : s.size ≤ maxLen)
    (hK : wpList Tryd.prog ops Q rest (a.put o.dst (.tuple #[.string ((FM.get fs s.data.toList).getD ⟨#[]⟩), .bool (FM.get fs s.data.toList).isSome])) W) : wpList Tryd.prog ops Q (o :: rest) a W := by
  refine wpList_lookup_own_ok W hg m x 61 hop 9 9 (Go.Maps.string_keyed Tryd.underlying9) Tryd.underlying61 strR (zero9 W) (strD ⟨#[]⟩) [] (strR_mk _) b fs.length _ hm hown (.string s) (.string s.data.toList) hx (key9 s hs) ?_
  intro v ps hv
  rw [FM.toD_at] at hv
  rw [FM.toD_has, strR_inv hv]
  exact hK
theorem step_put (hg : o.guard = none) (m x v : Operand) (hop : o.op = Op.mapUpdate 61 m x v) (b : Nat) (fs : Ks) (hm : a.eval m = .map (some b)) (hown : Own W b fs) (hn : fs.length ≤ 1000000) (s f : ByteArray) (hx : a.eval x = .string s) (hv : a.eval v = .string f) (hs : s.size ≤ maxLen)
    (hK : ∀ W1, Own W1 b (FM.put fs s.data.toList f) → W.grownBy W1 (some b) → wpList Tryd.prog ops Q rest (a.put o.dst undef) W1) : wpList Tryd.prog ops Q (o :: rest) a W := by
  refine wpList_mapUpdate_own W hg m x v 61 hop 9 9 (Go.Maps.string_keyed Tryd.underlying9) Tryd.underlying61 strR b fs.length _ hm hown (by unfold maxLen; omega) (.string s) (.string f) (.string s.data.toList) hx hv (key9 s hs) (strD f) [] (strR_mk f) ?_
  intro W1 h1 h2
  rw [FM.toD_put] at h1
  exact hK W1 (own_tight h1) h2
theorem step_del (hg : o.guard = none) (m x : Operand) (hop : o.op = Op.call { callee := Callee.builtin Builtin.delete, args := #[m, x], argTypes := #[61, 9] }) (b : Nat) (fs : Ks) (hm : a.eval m = .map (some b)) (hown : Own W b fs) (s : ByteArray) (hx : a.eval x = .string s) (hs : s.size ≤ maxLen)
    (hK : ∀ W1, Own W1 b (FM.del fs s.data.toList) → W.grownBy W1 (some b) → wpList Tryd.prog ops Q rest (a.put o.dst (.tuple #[])) W1) : wpList Tryd.prog ops Q (o :: rest) a W := by
  refine wpList_delete_own W hg m x 61 9 hop 9 (Go.Maps.string_keyed Tryd.underlying9) Tryd.underlying61 strR b fs.length _ hm hown (.string s) (.string s.data.toList) hx (key9 s hs) ?_
  intro W1 h1 h2
  rw [FM.toD_del] at h1
  refine hK W1 (own_tight h1) ?_
  obtain ⟨es, cl, es', cl', hb, rfl⟩ := h2
  exact ⟨rfl, rfl, rfl, by simp [ChangeMaps.setBlock], fun i _ hi => ChangeMaps.heap_setBlock_other hb _ (fun e => hi (by rw [e]))⟩
end
/-- Keys at block g, its map at block b. -/
structure IsAu (W : World) (g b : Nat) (m : Ks) : Prop where
  blk : W.heap[g]? = some (.cells #[.map (some b)] 79 (0, 0))
  own : Own W b m
  len : m.length ≤ 4096
  fine : ∀ p ∈ m, p.2.size ≤ 64
theorem IsAu.ne {W : World} {g b : Nat} {m : Ks} (h : IsAu W g b m) : g ≠ b := fun e => by
  obtain ⟨es, cl, hb, _⟩ := h.own
  rw [← e, h.blk] at hb
  cases hb
theorem IsAu.lt {W : World} {g b : Nat} {m : Ks} (h : IsAu W g b m) : g < W.heap.size ∧ b < W.heap.size := ⟨blk_lt h.blk, h.own.lt⟩
theorem IsAu.move {W W1 : World} {g b : Nat} {m : Ks} (h : IsAu W g b m) (h1 : W1.heap[g]? = W.heap[g]?) (h2 : W1.heap[b]? = W.heap[b]?) : IsAu W1 g b m := ⟨h1.trans h.blk, own_move h.own h2, h.len, h.fine⟩
theorem IsAu.fr {W W1 : World} {g b : Nat} {m : Ks} {S : Nat → Prop} (h : IsAu W g b m) (hf : Fr S W W1) (hg : ¬ S g) (hb : ¬ S b) : IsAu W1 g b m := h.move (hf.block g h.lt.1 hg) (hf.block b h.lt.2 hb)
theorem IsAu.below {W W1 : World} {g b : Nat} {m : Ks} (h : IsAu W g b m) (hb : Below W.heap.size W W1) : IsAu W1 g b m := h.move (hb.block g h.lt.1) (hb.block b h.lt.2)
abbrev Only (b : Nat) : Nat → Prop := fun k => k = b
theorem new_walk (w : World) : Calls Tryd.prog 25 #[] w fun e w' => e = .returned (.pointer (some ⟨w.heap.size + 1, 0, none⟩)) ∧ IsAu w' (w.heap.size + 1) w.heap.size [] ∧ Below w.heap.size w w' := by
  have hmm := @run_makeMap Tryd.prog
  go_enter Tryd.func25, Tryd.ntmps25
  go_wp2
  go_ret
  refine ⟨rfl, ⟨?_, ?_, by decide, fun p hp => by cases hp⟩, below_alloc (below_alloc (Below.refl _ _) _) _⟩
  · have := heap_alloc_new (w.alloc (.map #[] 0)) (.cells #[.map (some w.heap.size)] 79)
    rw [show (w.alloc (.map #[] 0)).heap.size = w.heap.size + 1 by simp] at this
    exact this
  · exact (World.ownsMap_made w Tryd.prog 9 strR).alloc _
def there (m : Ks) (s : ByteArray) : Bool := (FM.get m s.data.toList).isSome
def keyAt (m : Ks) (s : ByteArray) : ByteArray := (FM.get m s.data.toList).getD ⟨#[]⟩
def put (m : Ks) (n k : ByteArray) : Ks × Int :=
  if nameOk n = false then (m, 10)
  else if k.size = 0 ∨ 64 < k.size then (m, 2)
  else if there m n = false ∧ 4096 ≤ m.length then (m, 2)
  else (FM.put m n.data.toList k, 0)
def take (m : Ks) (n : ByteArray) : Ks × Int := if there m n = true then (FM.del m n.data.toList, 0) else (m, 5)
def check (m : Ks) (n c p : ByteArray) : Int := if p = proofS (keyAt m n) n c then (if there m n = true then 0 else 250) else 250
theorem keyAt_size {m : Ks} (h : ∀ p ∈ m, p.2.size ≤ 64) (s : ByteArray) : (keyAt m s).size ≤ 64 := by
  unfold keyAt
  cases hg : FM.get m s.data.toList with
  | none => exact Nat.zero_le _
  | some u => exact h _ (FM.mem_of_get hg)
theorem put_fine {m : Ks} (h : ∀ p ∈ m, p.2.size ≤ 64) (n : FM.Key) (k : ByteArray) (hk : k.size ≤ 64) : ∀ p ∈ FM.put m n k, p.2.size ≤ 64 := fun p hp => by
  rcases FM.mem_put.1 hp with rfl | ⟨hp, -⟩
  · exact hk
  · exact h p hp
theorem del_fine {m : Ks} (h : ∀ p ∈ m, p.2.size ≤ 64) (n : FM.Key) : ∀ p ∈ FM.del m n, p.2.size ≤ 64 := fun p hp => h p (FM.mem_del.1 hp).1
theorem put_len {m : Ks} (h : m.length ≤ 4096) (n : ByteArray) (k : ByteArray) (ht : there m n = true ∨ m.length < 4096) : (FM.put m n.data.toList k).length ≤ 4096 := by
  rcases ht with ht | ht
  · unfold there at ht
    obtain ⟨u, hu⟩ := Option.isSome_iff_exists.1 ht
    have := FM.len_put_old k hu
    omega
  · have := FM.len_put_new m n.data.toList k
    omega
theorem IsAu.put {W : World} {g b : Nat} {m : Ks} (h : IsAu W g b m) {W1 : World} {n k : ByteArray} (ho : Own W1 b (FM.put m n.data.toList k)) (hg : W.grownBy W1 (some b)) (hk : k.size ≤ 64) (ht : there m n = true ∨ m.length < 4096) : IsAu W1 g b (FM.put m n.data.toList k) :=
  ⟨(hg.block g h.lt.1 fun e => h.ne (by cases e; rfl)).trans h.blk, ho, put_len h.len n k ht, put_fine h.fine _ k hk⟩
theorem IsAu.del {W : World} {g b : Nat} {m : Ks} (h : IsAu W g b m) {W1 : World} {n : ByteArray} (ho : Own W1 b (FM.del m n.data.toList)) (hg : W.grownBy W1 (some b)) : IsAu W1 g b (FM.del m n.data.toList) :=
  ⟨(hg.block g h.lt.1 fun e => h.ne (by cases e; rfl)).trans h.blk, ho, Nat.le_trans (FM.len_del _ _) h.len, del_fine h.fine _⟩
end Go.Proofs.YtdnmllodefbekaaDoor.Au
