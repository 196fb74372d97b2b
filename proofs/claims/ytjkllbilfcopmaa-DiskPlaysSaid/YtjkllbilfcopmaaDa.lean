/- Da: the texts Dk0, Dk1, Dk2, Dk3, Dk4, Dk5, Dk6, Dk7, Dk8, Dk9, Dk10, Dk11, Dk12, Dk13, Dk14, Dk15, Dk16, Dk17, Dk18, one behind the other. -/
import Derived.Test.YtjkllbilfcopmaaProg
import Derived.Test.YtjkllbilfcopmaaDiskPure
import Derived.Test.YtjkllbilfcopmaaWMore
import Derived.LoopTactic
import Derived.WalkMore
import Derived.Lib.Hide
import Derived.WalkSpells
import Derived.WalkKit
import Derived.KernelRfl
import Derived.RowKit3
import Derived.Outline
import Derived.Maps.OwnSet
import Derived.BigQuiet
import Derived.StillTailTactics
import Derived.Carry
import Derived.Test.YtjkllbilfcopmaaDiskLaw2
import Derived.Test.YtjkllbilfcopmaaLay
import Derived.Shelf.SortM.Plain
import Derived.Deep.QuietTactic
import Derived.Deep.Slices
import Derived.Deep.Fields
import Derived.ChangeSame
import Derived.SizedLaws
import Derived.ChangeOld
import Derived.DataReads
section
namespace Go.Proofs.Ytjkllbilfcopmaa.Dk
open Go.RowKit Go.Proofs.YtjkllbilfcopmaaW.PrintWords Go.Proofs.YtjkllbilfcopmaaW.PrintLast Go.Proofs.YtjkllbilfcopmaaW.PrintMore
set_option linter.unusedVariables false
set_option linter.unusedSimpArgs false
theorem nameC_yes {c : UInt8} (h : (97 ≤ (c.toNat : Int) ∧ (c.toNat : Int) ≤ 122) ∨ (48 ≤ (c.toNat : Int) ∧ (c.toNat : Int) ≤ 57) ∨ (c.toNat : Int) = 46) : nameC c = true := by
  unfold nameC
  simp only [Bool.or_eq_true, Bool.and_eq_true, decide_eq_true_eq, beq_iff_eq, UInt8.le_iff_toNat_le, ← UInt8.toNat_inj]
  have e1 : (97 : UInt8).toNat = 97 := rfl
  have e2 : (122 : UInt8).toNat = 122 := rfl
  have e3 : (48 : UInt8).toNat = 48 := rfl
  have e4 : (57 : UInt8).toNat = 57 := rfl
  have e5 : (46 : UInt8).toNat = 46 := rfl
  omega
theorem nameC_no {c : UInt8} (h : ¬ ((97 ≤ (c.toNat : Int) ∧ (c.toNat : Int) ≤ 122) ∨ (48 ≤ (c.toNat : Int) ∧ (c.toNat : Int) ≤ 57) ∨ (c.toNat : Int) = 46)) : nameC c = false := by
  rw [Bool.eq_false_iff]
  intro hc
  apply h
  unfold nameC at hc
  simp only [Bool.or_eq_true, Bool.and_eq_true, decide_eq_true_eq, beq_iff_eq, UInt8.le_iff_toNat_le, ← UInt8.toNat_inj] at hc
  have e1 : (97 : UInt8).toNat = 97 := rfl
  have e2 : (122 : UInt8).toNat = 122 := rfl
  have e3 : (48 : UInt8).toNat = 48 := rfl
  have e4 : (57 : UInt8).toNat = 57 := rfl
  have e5 : (46 : UInt8).toNat = 46 := rfl
  omega
theorem all_no {l : List UInt8} {k : Nat} {m : List UInt8} {c : UInt8} (h : l.take (k + 1) = m ++ [c]) (hc : nameC c = false) : l.all nameC = false := by
  rw [List.all_eq_false]
  refine ⟨c, ?_, by simp [hc]⟩
  have : c ∈ l.take (k + 1) := by rw [h]; simp
  exact List.mem_of_mem_take this
theorem may_empty (w : World) : Calls Try.prog 24 #[.string ByteArray.empty] w fun e w' => e = .returned (.bool false) ∧ w = w' := by
  go_enter Try.func24, Try.ntmps24
  go_wp2
  go_ret
  exact ⟨rfl, rfl⟩
set_option maxHeartbeats 1000000 in
theorem may_walk (s : ByteArray) (w : World) (hs : s.size ≤ maxLen) : Calls Try.prog 24 #[.string s] w fun e w' => e = .returned (.bool (nameOk s)) ∧ w = w' := by
  unfold maxLen at hs
  by_cases h0 : s.data.toList = []
  · have : s = ByteArray.empty := ByteArray.ext (by rw [← Array.toList_inj, h0]; rfl)
    subst this
    exact may_empty w
  · have hz : 0 < s.size := by
      have := List.length_pos_iff.2 h0
      rw [Array.length_toList] at this
      exact this
    have h0' : s.toList.isEmpty = false := by rw [ByteArray.toList_eq]; simpa using h0
    go_enter Try.func24, Try.ntmps24
    by_cases h1 : 32 < s.size
    · have hN : nameOk s = false := by unfold nameOk; simp; omega
      rw [hN]
      have h1' : (32 : Int) < (s.size : Int) := by omega
      clear hN
      go_wp2
      go_ret
      exact ⟨rfl, rfl⟩
    · have h1' : (s.size : Int) ≤ 32 := by omega
      go_wp2_with fail
      have HN := Lib.hid (show nameOk s = s.data.toList.all nameC by
        unfold nameOk
        have e1 : s.data.toList.isEmpty = false := by simpa using h0
        have e2 : decide (s.size ≤ 32) = true := decide_eq_true (by omega)
        rw [e1, e2]; rfl)
      clear h0 h0'
      go_loop [3, 4, 14, 15, 16, 17, 18, 19, 20, 21, 22, 23, 24, 25, 26, 27, 28, 29, 30, 31, 32, 33, 34, 35] (fun _ _ i _ _ _ _ _ _ _ _ _ _ _ _ _ _ _ _ _ _ _ _ _ => ∃ k : Nat, k ≤ s.size ∧ i = .int .i64 k ∧ Hid ((s.data.toList.take k).all nameC = true)) (fun _ _ i _ _ _ _ _ _ _ _ _ _ _ _ _ _ _ _ _ _ _ _ _ => s.size - (intOf i).toNat)
      case atStart => exact ⟨0, Nat.zero_le _, rfl, Lib.hid rfl⟩
      case round =>
        obtain ⟨k, hk, rfl, HA⟩ := hrel
        by_cases hlt : k < s.size
        · have hts : s.data.toList.take (k + 1) = s.data.toList.take k ++ [s[k]] := by
            rw [List.take_succ_eq_append_getElem (by simpa using hlt)]; rfl
          have HT := Lib.hid hts
          clear hts
          go_wp2
          all_goals first
            | (refine ⟨⟨k + 1, by omega, by go_num, Lib.hid ?_⟩, by simp [intOf]; omega⟩
               rw [HT.out, List.all_append, HA.out, Bool.true_and, List.all_cons, List.all_nil, Bool.and_true]
               exact nameC_yes (by (try simp only [beq_iff_eq] at *); omega))
            | (go_ret
               refine ⟨?_, rfl⟩
               have hno := nameC_no (c := s[k]) (by (try simp only [beq_eq_false_iff_ne, ne_eq] at *); omega)
               rw [HN.out, all_no HT.out hno]
               rfl)
        · go_wp2
          go_ret
          refine ⟨?_, rfl⟩
          rw [HN.out]
          have := HA.out
          rw [List.take_of_length_le (by simp; omega)] at this
          rw [this]
          rfl
end Go.Proofs.Ytjkllbilfcopmaa.Dk
end

section
namespace Go.Proofs.Ytjkllbilfcopmaa.Dk
open Go.RowKit Go.Proofs.YtjkllbilfcopmaaW.PrintWords Go.Proofs.YtjkllbilfcopmaaW.PrintLast Go.Proofs.YtjkllbilfcopmaaW.PrintMore
set_option linter.unusedVariables false
set_option linter.unusedSimpArgs false
/-- What a call leaves: all but the blocks of S. -/
structure Fr (S : Nat → Prop) (w w' : World) : Prop where
  os : w'.os = w.os
  tape : w'.tape = w.tape
  output : w'.output = w.output
  size : w.heap.size ≤ w'.heap.size
  block : ∀ k, k < w.heap.size → ¬ S k → w'.heap[k]? = w.heap[k]?
theorem Fr.refl (S : Nat → Prop) (w : World) : Fr S w w := ⟨rfl, rfl, rfl, Nat.le_refl _, fun _ _ _ => rfl⟩
theorem Fr.trans {S : Nat → Prop} {a b c : World} (h : Fr S a b) (k : Fr S b c) : Fr S a c := ⟨k.os.trans h.os, k.tape.trans h.tape, k.output.trans h.output, Nat.le_trans h.size k.size, fun i hi hn => (k.block i (Nat.lt_of_lt_of_le hi h.size) hn).trans (h.block i hi hn)⟩
theorem Fr.of_below {S : Nat → Prop} {a b : World} (h : Below a.heap.size a b) : Fr S a b := ⟨h.os, h.tape, h.output, h.size, fun i hi _ => h.block i hi⟩
theorem Fr.mono {S T : Nat → Prop} {a b : World} (h : Fr S a b) (hs : ∀ k, S k → T k) : Fr T a b := ⟨h.os, h.tape, h.output, h.size, fun i hi hn => h.block i hi fun hk => hn (hs i hk)⟩
theorem Fr.alloc {S : Nat → Prop} {a b : World} (h : Fr S a b) (o : Obj) : Fr S a (b.alloc o) := h.trans (Fr.of_below (below_alloc (Below.refl _ _) o))
theorem Fr.drew {S : Nat → Prop} {a b : World} (h : Fr S a b) : Fr S a b.drew := h.trans (Fr.of_below (below_drew (Below.refl _ _)))
theorem Fr.drewN {S : Nat → Prop} {a b : World} (h : Fr S a b) (n : Nat) : Fr S a (b.drewN n) := h.trans (Fr.of_below (pw_below_drewN (Below.refl _ _) n))
theorem Fr.set {S : Nat → Prop} {a b : World} (h : Fr S a b) {p : Addr} (hp : S p.block ∨ a.heap.size ≤ p.block) (u : Value) : Fr S a (b.setCell p u) :=
  ⟨h.os, h.tape, h.output, by have := h.size; simpa [World.setCell] using this, fun i hi hn => (Below.heap_setCell b p u i (fun e => hp.elim (fun hp => hn (e ▸ hp)) (fun hp => by omega))).trans (h.block i hi hn)⟩
theorem Fr.grown {S : Nat → Prop} {a b c : World} (h : Fr S a b) {r : Nat} (hg : b.grownBy c (some r)) (hr : S r) : Fr S a c :=
  h.trans ⟨hg.os, hg.tape, hg.output, hg.size, fun i hi hn => hg.block i hi fun e => hn (by cases e; exact hr)⟩
theorem Fr.below {S : Nat → Prop} {w0 a b : World} (h : Fr S a b) (hb : Below w0.heap.size w0 a) (hS : ∀ k, S k → w0.heap.size ≤ k) : Below w0.heap.size w0 b :=
  ⟨h.os.trans hb.os, h.tape.trans hb.tape, h.output.trans hb.output, Nat.le_trans hb.size h.size, fun k hk => (h.block k (Nat.lt_of_lt_of_le hk hb.size) fun hs => absurd (hS k hs) (by omega)).trans (hb.block k hk)⟩
def cellsD (b : Nat) (fu dn : Bool) (l : Int) : Array Value := #[.map (some b), .bool fu, .bool dn, .int .i64 l]
abbrev Two (g b : Nat) : Nat → Prop := fun k => k = g ∨ k = b
abbrev Own (W : World) (b : Nat) (m : Fs) : Prop := W.ownsMap (H := Unit) Try.prog 9 fileR b m.length (FM.toD fileD m)
/-- A disk at block g, its map at block b. -/
structure IsDk (W : World) (g b : Nat) (d : DS) : Prop where
  blk : W.heap[g]? = some (.cells (cellsD b d.fused d.down d.left) 53 (0, 0))
  own : Own W b d.m
  fine : Fine d
theorem IsDk.ne {W : World} {g b : Nat} {d : DS} (h : IsDk W g b d) : g ≠ b := fun e => by
  obtain ⟨es, cl, hb, _⟩ := h.own
  rw [← e, h.blk] at hb
  cases hb
theorem IsDk.lt {W : World} {g b : Nat} {d : DS} (h : IsDk W g b d) : g < W.heap.size ∧ b < W.heap.size := ⟨blk_lt h.blk, h.own.lt⟩
theorem own_move {W W1 : World} {b : Nat} {m : Fs} (h : Own W b m) (hb : W1.heap[b]? = W.heap[b]?) : Own W1 b m := by
  obtain ⟨es, cl, h1, h2⟩ := h
  exact ⟨es, cl, hb.trans h1, h2⟩
theorem IsDk.move {W W1 : World} {g b : Nat} {d : DS} (h : IsDk W g b d) (h1 : W1.heap[g]? = W.heap[g]?) (h2 : W1.heap[b]? = W.heap[b]?) : IsDk W1 g b d := ⟨h1.trans h.blk, own_move h.own h2, h.fine⟩
theorem IsDk.fr {W W1 : World} {g b : Nat} {d : DS} {S : Nat → Prop} (h : IsDk W g b d) (hf : Fr S W W1) (hg : ¬ S g) (hb : ¬ S b) : IsDk W1 g b d := h.move (hf.block g h.lt.1 hg) (hf.block b h.lt.2 hb)
theorem IsDk.below {W W1 : World} {g b : Nat} {d : DS} (h : IsDk W g b d) (hb : Below W.heap.size W W1) : IsDk W1 g b d := h.move (hb.block g h.lt.1) (hb.block b h.lt.2)
/-- As tight a bound as there is. -/
theorem own_tight {W : World} {b n : Nat} {m : Fs} (h : W.ownsMap (H := Unit) Try.prog 9 fileR b n (FM.toD fileD m)) : Own W b m := by
  obtain ⟨es, cl, h1, h2, h3, h4⟩ := h
  refine ⟨es, cl, h1, h2, ?_, h4⟩
  have := congrArg Maps.size h4
  rw [FM.toD_size, Maps.size_eq, length_sorted] at this
  rw [this]
  simp
theorem new_walk (w : World) : Calls Try.prog 9 #[] w fun e w' => e = .returned (.pointer (some ⟨w.heap.size + 1, 0, none⟩)) ∧ IsDk w' (w.heap.size + 1) w.heap.size new ∧ Below w.heap.size w w' := by
  have hmm := @run_makeMap Try.prog
  go_enter Try.func9, Try.ntmps9
  go_wp2
  go_ret
  refine ⟨rfl, ⟨?_, ?_, new_fine⟩, below_alloc (below_alloc (Below.refl _ _) _) _⟩
  · have := heap_alloc_new (w.alloc (.map #[] 0)) (.cells #[.map (some w.heap.size), .bool false, .bool false, .int .i64 0] 53)
    rw [show (w.alloc (.map #[] 0)).heap.size = w.heap.size + 1 by simp] at this
    exact this
  · exact (World.ownsMap_made w Try.prog 9 fileR).alloc _
theorem chg_true {m : Fs} {fu dn : Bool} {l : Int} (h : (DS.mk m fu dn l).ok = true) : (DS.mk m fu dn l).chg = if fu then ⟨m, fu, dn, l - 1⟩ else ⟨m, fu, dn, l⟩ := by
  unfold DS.chg; rw [h]; rfl
theorem chg_walk (W : World) (g b : Nat) (d : DS) (h : IsDk W g b d) : Calls Try.prog 25 #[.pointer (some ⟨g, 0, none⟩)] W fun e W' => e = .returned (.bool d.ok) ∧ IsDk W' g b d.chg ∧ Fr (Two g b) W W' := by
  have HF := Lib.hid h.fine.chg
  have HI := Lib.hid h
  obtain ⟨m, fu, dn, l⟩ := d
  have hblk := h.blk
  have hl : 0 ≤ l ∧ l ≤ 9223372036854775807 := h.fine.left
  obtain ⟨hl0, hl1⟩ := hl
  have c1 := (blk_cell hblk 1).trans (show _ = some (Value.bool fu) from rfl)
  have c2 := (blk_cell hblk 2).trans (show _ = some (Value.bool dn) from rfl)
  have c3 := (blk_cell hblk 3).trans (show _ = some (Value.int .i64 l) from rfl)
  have f2 := blk_frozen hblk 2
  have f3 := blk_frozen hblk 3
  have HB := Lib.hid hblk
  have HN := Lib.hid h.ne
  clear hblk h
  have HD : Hid (∀ v : Value, IsDk W g b ⟨m, fu, dn, l⟩ → (∀ d', Fine d' → (∀ j u, (cellsD b fu dn l).setIfInBounds j u = cellsD b d'.fused d'.down d'.left → d'.m = m → IsDk (W.setCell ⟨g, j, none⟩ u) g b d' ∧ Fr (Two g b) W (W.setCell ⟨g, j, none⟩ u)))) := Lib.hid fun _ hI d' hf j u he hm =>
    ⟨⟨blk_put hI.blk j u he, by rw [hm]; exact own_move hI.own (Below.heap_setCell W ⟨g, j, none⟩ u b fun e => hI.ne e.symm), hf⟩, (Fr.refl _ _).set (.inl (.inl rfl)) _⟩
  by_cases hok : (DS.mk m fu dn l).ok = true
  · have HC := Lib.hid (chg_true hok)
    rw [hok]
    unfold DS.ok at hok
    cases dn with
    | true => simp at hok
    | false =>
      cases fu with
      | true =>
        have hz : ¬ l = 0 := by simpa using hok
        have hzb : (l == 0) = false := by simpa using hz
        have hl2 : 0 ≤ l - 1 := by omega
        clear hok hz
        go_enter Try.func25, Try.ntmps25
        go_wp2
        go_ret
        refine ⟨rfl, ?_⟩
        have e := HC.out
        rw [if_pos trivial] at e
        rw [e]
        exact HD.out undef HI.out _ (by rw [← e]; exact HF.out) 3 _ rfl rfl
      | false =>
        clear hok
        go_enter Try.func25, Try.ntmps25
        go_wp2
        go_ret
        have e := HC.out
        rw [if_neg (by simp)] at e
        rw [e]
        exact ⟨rfl, HI.out, Fr.refl _ _⟩
  · have hok' : (DS.mk m fu dn l).ok = false := by simpa using hok
    have HC := Lib.hid (show (DS.mk m fu dn l).chg = ⟨m, fu, true, l⟩ from by unfold DS.chg; rw [hok', if_neg (by decide)])
    rw [hok']
    unfold DS.ok at hok'
    clear hok
    cases dn with
    | true =>
      clear hok'
      cases fu with
      | true =>
        by_cases hz : l = 0
        · subst hz
          go_enter Try.func25, Try.ntmps25
          go_wp2
          go_ret
          rw [HC.out]
          exact ⟨rfl, HD.out undef HI.out _ (by rw [← HC.out]; exact HF.out) 2 _ rfl rfl⟩
        · have hzb : (l == 0) = false := by simpa using hz
          clear hz
          go_enter Try.func25, Try.ntmps25
          go_wp2
          go_ret
          rw [HC.out]
          exact ⟨rfl, HI.out, Fr.refl _ _⟩
      | false =>
        go_enter Try.func25, Try.ntmps25
        go_wp2
        go_ret
        rw [HC.out]
        exact ⟨rfl, HI.out, Fr.refl _ _⟩
    | false =>
      cases fu with
      | false => simp at hok'
      | true =>
        have hz : l = 0 := by simpa using hok'
        subst hz
        clear hok'
        go_enter Try.func25, Try.ntmps25
        go_wp2
        go_ret
        rw [HC.out]
        exact ⟨rfl, HD.out undef HI.out _ (by rw [← HC.out]; exact HF.out) 2 _ rfl rfl⟩
end Go.Proofs.Ytjkllbilfcopmaa.Dk
end

section
namespace Go.Proofs.Ytjkllbilfcopmaa.Dk
open Go.RowKit Go.Proofs.YtjkllbilfcopmaaW.PrintWords Go.Proofs.YtjkllbilfcopmaaW.PrintLast Go.Proofs.YtjkllbilfcopmaaW.PrintMore
set_option linter.unusedVariables false
set_option linter.unusedSimpArgs false
theorem zero56 (w : World) : (zeroValue 56).run Try.prog w = .ok (fileV z0) w := by kernel_rfl
theorem key9 (s : ByteArray) (hs : s.size ≤ maxLen) : keyOf Try.prog 9 (.string s) = some (.string s.data.toList) := by
  simp [keyOf, mapKey, Try.underlying9, hs]
section
variable {ops : Array Oper} {rest : List Oper} {o : Oper} {a : Act} {Q : Exit → Act → World → Prop} {W : World}
theorem step_look (hg : o.guard = none) (m x : Operand) (hop : o.op = Op.lookup 51 m x true) (b : Nat) (fs : Fs) (hm : a.eval m = .map (some b)) (hown : Own W b fs) (s : ByteArray) (hx : a.eval x = .string s) (hs : s.size ≤ maxLen)
    (hK : wpList Try.prog ops Q rest (a.put o.dst (.tuple #[fileV ((FM.get fs s.data.toList).getD z0), .bool (FM.get fs s.data.toList).isSome])) W) : wpList Try.prog ops Q (o :: rest) a W := by
  refine wpList_lookup_own_ok W hg m x 51 hop 9 56 (Go.Maps.string_keyed Try.underlying9) Try.underlying51 fileR (zero56 W) (fileD z0) [] (fileR_mk z0) b fs.length _ hm hown (.string s) (.string s.data.toList) hx (key9 s hs) ?_
  intro v ps hv
  rw [FM.toD_at] at hv
  rw [FM.toD_has, fileR_inv hv]
  exact hK
theorem look_run (b : Nat) (fs : Fs) (hown : Own W b fs) (s : ByteArray) (hs : s.size ≤ maxLen) : (Instr.lookup 51 (.map (some b)) (.string s) false).run Try.prog W = .ok (fileV ((FM.get fs s.data.toList).getD z0)) W := by
  obtain ⟨v, ps, hr, hv⟩ := hown.lookup (Go.Maps.string_keyed Try.underlying9) Try.underlying51 (zero56 W) (fileR_mk z0) (key9 s hs)
  rw [FM.toD_at] at hv
  rw [hr, fileR_inv hv]
theorem step_put (hg : o.guard = none) (m x v : Operand) (hop : o.op = Op.mapUpdate 51 m x v) (b : Nat) (fs : Fs) (hm : a.eval m = .map (some b)) (hown : Own W b fs) (hn : fs.length ≤ 1000000) (s : ByteArray) (f : Fl) (hx : a.eval x = .string s) (hv : a.eval v = fileV f) (hs : s.size ≤ maxLen)
    (hK : ∀ W1, Own W1 b (FM.put fs s.data.toList f) → W.grownBy W1 (some b) → wpList Try.prog ops Q rest (a.put o.dst undef) W1) : wpList Try.prog ops Q (o :: rest) a W := by
  refine wpList_mapUpdate_own W hg m x v 51 hop 9 56 (Go.Maps.string_keyed Try.underlying9) Try.underlying51 fileR b fs.length _ hm hown (by unfold maxLen; omega) (.string s) (fileV f) (.string s.data.toList) hx hv (key9 s hs) (fileD f) [] (fileR_mk f) ?_
  intro W1 h1 h2
  rw [FM.toD_put] at h1
  exact hK W1 (own_tight h1) h2
theorem step_del (hg : o.guard = none) (m x : Operand) (hop : o.op = Op.call { callee := Callee.builtin Builtin.delete, args := #[m, x], argTypes := #[51, 9] }) (b : Nat) (fs : Fs) (hm : a.eval m = .map (some b)) (hown : Own W b fs) (s : ByteArray) (hx : a.eval x = .string s) (hs : s.size ≤ maxLen)
    (hK : ∀ W1, Own W1 b (FM.del fs s.data.toList) → W.grownBy W1 (some b) → wpList Try.prog ops Q rest (a.put o.dst (.tuple #[])) W1) : wpList Try.prog ops Q (o :: rest) a W := by
  refine wpList_delete_own W hg m x 51 9 hop 56 (Go.Maps.string_keyed Try.underlying9) Try.underlying51 fileR b fs.length _ hm hown (.string s) (.string s.data.toList) hx (key9 s hs) ?_
  intro W1 h1 h2
  rw [FM.toD_del] at h1
  refine hK W1 (own_tight h1) ?_
  obtain ⟨es, cl, es', cl', hb, rfl⟩ := h2
  exact ⟨rfl, rfl, rfl, by simp [ChangeMaps.setBlock], fun i _ hi => ChangeMaps.heap_setBlock_other hb _ (fun e => hi (by rw [e]))⟩
theorem step_len (hg : o.guard = none) (m : Operand) (hop : o.op = Op.call { callee := Callee.builtin Builtin.len, args := #[m], argTypes := #[51] }) (b : Nat) (fs : Fs) (hm : a.eval m = .map (some b)) (hown : Own W b fs)
    (hK : wpList Try.prog ops Q rest (a.put o.dst (.int .i64 (fs.length : Int))) W) : wpList Try.prog ops Q (o :: rest) a W := by
  refine wpList_len_own W hg m 51 hop 9 56 Try.underlying51 fileR b fs.length _ hm hown ?_
  rw [FM.toD_size]
  exact hK
end
theorem known_walk (W : World) (g b : Nat) (d : DS) (h : IsDk W g b d) (s : ByteArray) (hs : s.size ≤ maxLen) : Calls Try.prog 28 #[.pointer (some ⟨g, 0, none⟩), .string s] W fun e W' => e = .returned (.tuple #[fileV (known d s).1, .int .i64 (known d s).2]) ∧ Below W.heap.size W W' := by
  have HI := Lib.hid h
  have c0 := (blk_cell h.blk 0).trans (show _ = some (Value.map (some b)) from rfl)
  have hg := h.lt.1
  clear h
  cases hN : nameOk s with
  | false =>
    have HK := Lib.hid (show known d s = (z0, 10) by unfold known; rw [hN]; rfl)
    rw [HK.out]
    have HN := Lib.hid hN
    clear hN
    go_enter Try.func28, Try.ntmps28
    go_wp2_with (first | (go_at_call 24; refine (may_walk s _ hs).mono ?_; rw [HN.out]; rintro e w' ⟨rfl, rfl⟩))
    exact bodyPost_ret (v := .tuple #[fileV z0, .int .i64 10]) (by simp [results, Try.results28, go_sem, fileV, z0]; rfl) rfl ⟨rfl, below_alloc (Below.refl _ _) _⟩
  | true =>
    have HN := Lib.hid hN
    obtain ⟨⟨fh, fs⟩, hf⟩ : ∃ f, (FM.get d.m s.data.toList).getD z0 = f := ⟨_, rfl⟩
    have HF := Lib.hid hf
    cases hT : there d s with
    | false =>
      have HK := Lib.hid (show known d s = (z0, 5) by unfold known; rw [hN, hT]; rfl)
      rw [HK.out]
      have HT := Lib.hid (show (FM.get d.m s.data.toList).isSome = false from hT)
      clear hN hf hT
      go_enter Try.func28, Try.ntmps28
      go_wp2_with (first | (go_at_call 24; refine (may_walk s _ hs).mono ?_; rw [HN.out]; rintro e w' ⟨rfl, rfl⟩) | (at_lookup; refine step_look rfl _ _ rfl b d.m rfl ((HI.out.below (below_alloc (Below.refl _ _) _)).own) s rfl hs ?_; rw [HT.out, HF.out]; simp only [fileV]))
      exact bodyPost_ret (v := .tuple #[fileV z0, .int .i64 5]) (by simp [results, Try.results28, go_sem, fileV, z0]; rfl) rfl ⟨rfl, below_alloc (below_alloc (Below.refl _ _) _) _⟩
    | true =>
      have HK := Lib.hid (show known d s = (⟨fh, fs⟩, 0) by unfold known file; rw [hN, hT, hf]; rfl)
      rw [HK.out]
      have HT := Lib.hid (show (FM.get d.m s.data.toList).isSome = true from hT)
      clear hN hf hT
      go_enter Try.func28, Try.ntmps28
      go_wp2_with (first | (go_at_call 24; refine (may_walk s _ hs).mono ?_; rw [HN.out]; rintro e w' ⟨rfl, rfl⟩) | (at_lookup; refine step_look rfl _ _ rfl b d.m rfl ((HI.out.below (below_alloc (Below.refl _ _) _)).own) s rfl hs ?_; rw [HT.out, HF.out]; simp only [fileV]))
      exact bodyPost_ret (v := .tuple #[fileV ⟨fh, fs⟩, .int .i64 0]) (by simp [results, Try.results28, go_sem, fileV]) rfl ⟨rfl, below_alloc (below_alloc (Below.refl _ _) _) _⟩
end Go.Proofs.Ytjkllbilfcopmaa.Dk
end

section
namespace Go.Proofs.Ytjkllbilfcopmaa.Dk
open Go.RowKit Go.Proofs.YtjkllbilfcopmaaW.PrintWords Go.Proofs.YtjkllbilfcopmaaW.PrintLast Go.Proofs.YtjkllbilfcopmaaW.PrintMore
set_option linter.unusedVariables false
set_option linter.unusedSimpArgs false
/-- A file's variable at block k. -/
def FlAt (W : World) (k : Nat) (f : Fl) : Prop := W.heap[k]? = some (.cells #[.string f.has, .int .i64 f.safe] 56 (0, 0))
theorem FlAt.lt {W : World} {k : Nat} {f : Fl} (h : FlAt W k f) : k < W.heap.size := blk_lt h
theorem FlAt.fr {W W1 : World} {k : Nat} {f : Fl} {S : Nat → Prop} (h : FlAt W k f) (hf : Fr S W W1) (hk : ¬ S k) : FlAt W1 k f := (hf.block k h.lt hk).trans h
theorem FlAt.below {W W1 : World} {k : Nat} {f : Fl} (h : FlAt W k f) (hb : Below W.heap.size W W1) : FlAt W1 k f := (hb.block k h.lt).trans h
theorem FlAt.not_two {W : World} {k g b : Nat} {f : Fl} {d : DS} (h : FlAt W k f) (hI : IsDk W g b d) : ¬ Two g b k := by
  rintro (e | e)
  · subst e
    have := h.symm.trans hI.blk
    cases this
  · subst e
    obtain ⟨es, cl, hb, _⟩ := hI.own
    rw [show W.heap[k]? = _ from h] at hb
    cases hb
theorem FlAt.cells {W : World} {k : Nat} {f : Fl} (h : FlAt W k f) : W.cell? ⟨k, 0, none⟩ = some (.string f.has) ∧ W.cell? ⟨k, 1, none⟩ = some (.int .i64 f.safe) ∧ W.frozen? ⟨k, 0, none⟩ = false ∧ W.frozen? ⟨k, 1, none⟩ = false :=
  ⟨(blk_cell h 0).trans rfl, (blk_cell h 1).trans rfl, blk_frozen h 0, blk_frozen h 1⟩
theorem FlAt.put {W : World} {k : Nat} {f : Fl} (h : FlAt W k f) (q : Fl) : FlAt ((W.setCell ⟨k, 0, none⟩ (.string q.has)).setCell ⟨k, 1, none⟩ (.int .i64 q.safe)) k q := blk_put (blk_put h 0 _ rfl) 1 _ rfl
theorem IsDk.setFar {W : World} {g b k : Nat} {d : DS} (h : IsDk W g b d) (hk : ¬ Two g b k) (j : Nat) (u : Value) : IsDk (W.setCell ⟨k, j, none⟩ u) g b d :=
  h.move (Below.heap_setCell W ⟨k, j, none⟩ u g fun e => hk (.inl e.symm)) (Below.heap_setCell W ⟨k, j, none⟩ u b fun e => hk (.inr e.symm))
set_option maxHeartbeats 1000000 in
theorem altered_walk (W : World) (g b : Nat) (d : DS) (h : IsDk W g b d) (s : ByteArray) (hs : s.size ≤ maxLen) : Calls Try.prog 26 #[.pointer (some ⟨g, 0, none⟩), .string s] W fun e W' => e = .returned (.tuple #[fileV (altered d s).2.1, .int .i64 (altered d s).2.2]) ∧ IsDk W' g b (altered d s).1 ∧ Fr (Two g b) W W' := by
  have HI := Lib.hid h
  clear h
  obtain ⟨⟨⟨fh, fs⟩, ec⟩, hk⟩ : ∃ r, known d s = r := ⟨_, rfl⟩
  have HK := Lib.hid hk
  by_cases he : ec = 0
  · subst he
    cases hok : d.ok with
    | true =>
      have HA : Hid (altered d s = (d.chg, ⟨fh, fs⟩, 0)) := Lib.hid (by unfold altered; rw [hk, hok]; rfl)
      rw [HA.out]
      have HOK := Lib.hid hok
      clear hk hok
      go_enter Try.func26, Try.ntmps26
      go_wp2_with fail
      refine (known_walk _ g b d (HI.out.below (below_alloc (Below.refl _ _) _)) s hs).mono ?_
      rw [HK.out]
      rintro e W1 ⟨rfl, hB1⟩
      have h4 : FlAt W1 W.heap.size z0 := (hB1.block _ (by simp)).trans (heap_alloc_new W _)
      have HB1 := Lib.hid ((below_alloc (Below.refl _ _) _).trans (hB1.mono (by simp)) : Below W.heap.size W W1)
      have H4 := Lib.hid h4
      simp only [fileV]
      clear hB1 h4
      go_wp2_with fail
      have hI1 : IsDk (W1.alloc (.cells #[.string fh, .int .i64 fs] 56)) g b d := HI.out.below (HB1.out.trans ((below_alloc (Below.refl _ _) _).mono HB1.out.size))
      have h6 : FlAt (W1.alloc (.cells #[.string fh, .int .i64 fs] 56)) W1.heap.size ⟨fh, fs⟩ := heap_alloc_new W1 _
      have h4 : FlAt (W1.alloc (.cells #[.string fh, .int .i64 fs] 56)) W.heap.size z0 := H4.out.below (below_alloc (Below.refl _ _) _)
      have hn6 := h6.not_two hI1
      have hn4 := h4.not_two hI1
      refine (chg_walk _ g b d hI1).mono ?_
      rintro e W2 ⟨rfl, hI2, hF2⟩
      have h6' := h6.fr hF2 hn6
      have h4' := h4.fr hF2 hn4
      have HI2 := Lib.hid hI2
      have HF2 := Lib.hid ((Fr.of_below HB1.out).alloc (.cells #[.string fh, .int .i64 fs] 56) |>.trans hF2)
      have hlt4 := H4.out.lt
      obtain ⟨k4, hk4⟩ : ∃ k, W.heap.size = k := ⟨_, rfl⟩
      obtain ⟨k6, hk6⟩ : ∃ k, W1.heap.size = k := ⟨_, rfl⟩
      rw [hk4] at h4'
      rw [hk6] at h6'
      obtain ⟨c40, c41, f40, f41⟩ := h4'.cells
      obtain ⟨c60, c61, f60, f61⟩ := h6'.cells
      have H4 := Lib.hid (And.intro h4' (Nat.le_of_eq hk4))
      rw [hk4, hk6]
      have HN := Lib.hid (And.intro hn4 hn6)
      clear h6 h4 hI1 hI2 hF2 h6' h4' hk4 hk6 hn4 hn6 hlt4
      rw [HOK.out]
      go_wp2
      have hF := H4.out.1.put ⟨fh, fs⟩
      have x0 := World.cell?_setCell_same' W2 ⟨k4, 0, none⟩ (.string fh) (by rw [c40]; rfl)
      have x1 := hF.cells.2.1
      exact bodyPost_ret (v := .tuple #[fileV ⟨fh, fs⟩, .int .i64 0]) (by simp [results, Try.results26, go_sem, fileV, x0, x1]) rfl ⟨rfl, (HI2.out.setFar (H4.out.1.not_two HI2.out) _ _).setFar (H4.out.1.not_two HI2.out) _ _, (HF2.out.set (.inr H4.out.2) _).set (.inr H4.out.2) _⟩
    | false =>
      have HA : Hid (altered d s = (d.chg, ⟨fh, fs⟩, 11)) := Lib.hid (by unfold altered; rw [hk, hok]; rfl)
      rw [HA.out]
      have HOK := Lib.hid hok
      clear hk hok
      go_enter Try.func26, Try.ntmps26
      go_wp2_with fail
      refine (known_walk _ g b d (HI.out.below (below_alloc (Below.refl _ _) _)) s hs).mono ?_
      rw [HK.out]
      rintro e W1 ⟨rfl, hB1⟩
      have h4 : FlAt W1 W.heap.size z0 := (hB1.block _ (by simp)).trans (heap_alloc_new W _)
      have HB1 := Lib.hid ((below_alloc (Below.refl _ _) _).trans (hB1.mono (by simp)) : Below W.heap.size W W1)
      have H4 := Lib.hid h4
      simp only [fileV]
      clear hB1 h4
      go_wp2_with fail
      have hI1 : IsDk (W1.alloc (.cells #[.string fh, .int .i64 fs] 56)) g b d := HI.out.below (HB1.out.trans ((below_alloc (Below.refl _ _) _).mono HB1.out.size))
      have h6 : FlAt (W1.alloc (.cells #[.string fh, .int .i64 fs] 56)) W1.heap.size ⟨fh, fs⟩ := heap_alloc_new W1 _
      have h4 : FlAt (W1.alloc (.cells #[.string fh, .int .i64 fs] 56)) W.heap.size z0 := H4.out.below (below_alloc (Below.refl _ _) _)
      have hn6 := h6.not_two hI1
      have hn4 := h4.not_two hI1
      refine (chg_walk _ g b d hI1).mono ?_
      rintro e W2 ⟨rfl, hI2, hF2⟩
      have h6' := h6.fr hF2 hn6
      have h4' := h4.fr hF2 hn4
      have HI2 := Lib.hid hI2
      have HF2 := Lib.hid ((Fr.of_below HB1.out).alloc (.cells #[.string fh, .int .i64 fs] 56) |>.trans hF2)
      have hlt4 := H4.out.lt
      obtain ⟨k4, hk4⟩ : ∃ k, W.heap.size = k := ⟨_, rfl⟩
      obtain ⟨k6, hk6⟩ : ∃ k, W1.heap.size = k := ⟨_, rfl⟩
      rw [hk4] at h4'
      rw [hk6] at h6'
      obtain ⟨c40, c41, f40, f41⟩ := h4'.cells
      obtain ⟨c60, c61, f60, f61⟩ := h6'.cells
      have H4 := Lib.hid (And.intro h4' (Nat.le_of_eq hk4))
      rw [hk4, hk6]
      have HN := Lib.hid (And.intro hn4 hn6)
      clear h6 h4 hI1 hI2 hF2 h6' h4' hk4 hk6 hn4 hn6 hlt4
      rw [HOK.out]
      go_wp2
      have hF := H4.out.1.put ⟨fh, fs⟩
      have x0 := World.cell?_setCell_same' W2 ⟨k4, 0, none⟩ (.string fh) (by rw [c40]; rfl)
      have x1 := hF.cells.2.1
      exact bodyPost_ret (v := .tuple #[fileV ⟨fh, fs⟩, .int .i64 11]) (by simp [results, Try.results26, go_sem, fileV, x0, x1]) rfl ⟨rfl, (HI2.out.setFar (H4.out.1.not_two HI2.out) _ _).setFar (H4.out.1.not_two HI2.out) _ _, (HF2.out.set (.inr H4.out.2) _).set (.inr H4.out.2) _⟩
  · have HA : Hid (altered d s = (d, ⟨fh, fs⟩, ec)) := Lib.hid (by unfold altered; rw [hk, if_neg he])
    rw [HA.out]
    have heb : (ec == 0) = false := by simpa using he
    clear hk he
    go_enter Try.func26, Try.ntmps26
    go_wp2_with fail
    refine (known_walk _ g b d (HI.out.below (below_alloc (Below.refl _ _) _)) s hs).mono ?_
    rw [HK.out]
    rintro e W1 ⟨rfl, hB1⟩
    have h4 : FlAt W1 W.heap.size z0 := (hB1.block _ (by simp)).trans (heap_alloc_new W _)
    have HB1 := Lib.hid ((below_alloc (Below.refl _ _) _).trans (hB1.mono (by simp)) : Below W.heap.size W W1)
    simp only [fileV]
    have h4b : FlAt (W1.alloc (.cells #[.string fh, .int .i64 fs] 56)) W.heap.size z0 := h4.below (below_alloc (Below.refl _ _) _)
    have hI1 : IsDk (W1.alloc (.cells #[.string fh, .int .i64 fs] 56)) g b d := HI.out.below (HB1.out.trans ((below_alloc (Below.refl _ _) _).mono HB1.out.size))
    have H5 := Lib.hid (And.intro h4b hI1)
    have hne : W1.heap.size ≠ W.heap.size := by have := h4.lt; omega
    obtain ⟨k4, hk4⟩ : ∃ k, W.heap.size = k := ⟨_, rfl⟩
    rw [hk4] at h4 h4b hne
    obtain ⟨c40, c41, f40, f41⟩ := h4b.cells
    have H4 := Lib.hid (And.intro h4b (Nat.le_of_eq hk4))
    rw [hk4]
    clear h4 h4b hk4 hB1 hI1
    go_wp2
    have hF := H4.out.1.put ⟨fh, fs⟩
    have x0 := World.cell?_setCell_same' (W1.alloc (.cells #[.string fh, .int .i64 fs] 56)) ⟨k4, 0, none⟩ (.string fh) (by rw [c40]; rfl)
    have x1 := hF.cells.2.1
    exact bodyPost_ret (v := .tuple #[fileV ⟨fh, fs⟩, .int .i64 ec]) (by simp [results, Try.results26, go_sem, fileV, x0, x1]) rfl ⟨rfl, (H5.out.2.setFar (H4.out.1.not_two H5.out.2) _ _).setFar (H4.out.1.not_two H5.out.2) _ _, (((Fr.of_below HB1.out).alloc _).set (.inr H4.out.2) _).set (.inr H4.out.2) _⟩
end Go.Proofs.Ytjkllbilfcopmaa.Dk
end

section
namespace Go.Proofs.Ytjkllbilfcopmaa.Dk
open Go.RowKit Go.Proofs.YtjkllbilfcopmaaW.PrintWords Go.Proofs.YtjkllbilfcopmaaW.PrintLast Go.Proofs.YtjkllbilfcopmaaW.PrintMore
set_option linter.unusedVariables false
set_option linter.unusedSimpArgs false
theorem IsDk.turn {W W2 : World} {g b : Nat} {d : DS} (h : IsDk W g b d) {m : Fs} (ho : Own W2 b m) (hg : W.grownBy W2 (some b)) (hf : Fine { d with m := m }) : IsDk W2 g b { d with m := m } ∧ Fr (Two g b) W W2 :=
  ⟨⟨(hg.block g h.lt.1 fun e => h.ne (Option.some.inj e)).trans h.blk, ho, hf⟩, (Fr.refl _ _).grown hg (.inr rfl)⟩
theorem altered_m (d : DS) (s : ByteArray) : (altered d s).1.m = d.m := by
  unfold altered; split
  · exact chg_m d
  · rfl
set_option maxRecDepth 100000 in
set_option maxHeartbeats 1000000 in
theorem sync_walk (W : World) (g b : Nat) (d : DS) (h : IsDk W g b d) (s : ByteArray) (hs : s.size ≤ maxLen) : Calls Try.prog 12 #[.pointer (some ⟨g, 0, none⟩), .string s] W fun e W' => e = .returned (.int .i64 (sync d s).2) ∧ IsDk W' g b (sync d s).1 ∧ Fr (Two g b) W W' := by
  have HI := Lib.hid h
  have HFi := Lib.hid (sync_fine h.fine s)
  clear h
  obtain ⟨⟨d1, ⟨fh, fs⟩, ec⟩, hk⟩ : ∃ r, altered d s = r := ⟨_, rfl⟩
  have HK := Lib.hid hk
  have hm1 : d1.m = d.m := by have := altered_m d s; rw [hk] at this; exact this
  have HM1 := Lib.hid hm1
  by_cases he : ec = 0
  · subst he
    have hfile : file d s = ⟨fh, fs⟩ := by have := (altered_yes (d := d) (s := s) (by rw [hk])).2.2.2.2; rw [hk] at this; exact this.symm
    have hS : sync d s = ({ d1 with m := FM.put d.m s.data.toList ⟨fh, fh.size⟩ }, 0) := by unfold sync; rw [hk, if_pos rfl, hfile]
    rw [hS] at HFi ⊢
    clear hk hm1 hfile hS
    go_enter Try.func12, Try.ntmps12
    go_wp2_with fail
    refine (altered_walk W g b d HI.out s hs).mono ?_
    rw [HK.out]
    rintro e W1 ⟨rfl, hI1, hF1⟩
    have hI2 := hI1.below (below_alloc (Below.refl _ _) (.cells #[.string fh, .int .i64 fs] 56))
    have h6 : FlAt (W1.alloc (.cells #[.string fh, .int .i64 fs] 56)) W1.heap.size ⟨fh, fs⟩ := heap_alloc_new W1 _
    have hF2 := hF1.alloc (.cells #[.string fh, .int .i64 fs] 56)
    simp only [fileV]
    go_wp2_with fail
    generalize W1.alloc (.cells #[.string fh, .int .i64 fs] 56) = W2 at hI2 h6 hF2 ⊢
    generalize W1.heap.size = k6 at h6 ⊢
    have c0 : ({ W2 with drawn := W2.drawn + 1 } : World).cell? ⟨g, 0, none⟩ = some (.map (some b)) := (blk_cell hI2.blk 0).trans rfl
    have c60 : ({ W2 with drawn := W2.drawn + 1 } : World).cell? ⟨k6, 0, none⟩ = some (.string fh) := h6.cells.1
    have HI2 := Lib.hid (hI2.move rfl rfl : IsDk { W2 with drawn := W2.drawn + 1 } g b d1)
    have HF2 := Lib.hid (show Fr (Two g b) W { W2 with drawn := W2.drawn + 1 } from hF2.drew)
    clear hI1 hF1 hI2 h6 hF2
    refine wp_region_still_tail 11 (by kernel_rfl) (by kernel_rfl) ?_
    simp only [List.take_succ_cons, List.take_zero, List.drop_succ_cons, List.drop_zero]
    generalize ({ W2 with drawn := W2.drawn + 1 } : World) = W3 at *
    repeat still_step
    refine wpStill_nil ?_
    refine step_put rfl _ _ _ rfl b d1.m rfl HI2.out.own (Nat.le_trans HI2.out.fine.many (by decide)) s ⟨fh, fh.size⟩ rfl rfl hs ?_
    intro W4 ho hg
    rw [HM1.out] at ho
    have HT := Lib.hid (HI2.out.turn ho hg HFi.out)
    have HF4 := Lib.hid (HF2.out.trans HT.out.2)
    clear ho hg c0 c60
    go_wp2
    go_ret
    exact ⟨rfl, HT.out.1, HF4.out⟩
  · have hS : sync d s = (d1, ec) := by unfold sync; rw [hk, if_neg he]
    rw [hS]
    have heb : (ec == 0) = false := by simpa using he
    clear hk hm1 hS he
    go_enter Try.func12, Try.ntmps12
    go_wp2_with fail
    refine (altered_walk W g b d HI.out s hs).mono ?_
    rw [HK.out]
    rintro e W1 ⟨rfl, hI1, hF1⟩
    have HI2 := Lib.hid (hI1.below (below_alloc (Below.refl _ _) (.cells #[.string fh, .int .i64 fs] 56)))
    have HF2 := Lib.hid (hF1.alloc (.cells #[.string fh, .int .i64 fs] 56))
    simp only [fileV]
    clear hI1 hF1
    go_wp2
    go_ret
    exact ⟨rfl, HI2.out, HF2.out⟩
end Go.Proofs.Ytjkllbilfcopmaa.Dk
end

section
namespace Go.Proofs.Ytjkllbilfcopmaa.Dk
open Go.RowKit Go.Proofs.YtjkllbilfcopmaaW.PrintWords Go.Proofs.YtjkllbilfcopmaaW.PrintLast Go.Proofs.YtjkllbilfcopmaaW.PrintMore
set_option linter.unusedVariables false
set_option linter.unusedSimpArgs false
theorem read_walk (W : World) (g b : Nat) (d : DS) (h : IsDk W g b d) (s : ByteArray) (hs : s.size ≤ maxLen) : Calls Try.prog 14 #[.pointer (some ⟨g, 0, none⟩), .string s] W fun e W' => e = .returned (.tuple #[.string (read d s).1, .int .i64 (read d s).2]) ∧ Below W.heap.size W W' := by
  have HI := Lib.hid h
  clear h
  obtain ⟨⟨⟨fh, fs⟩, ec⟩, hk⟩ : ∃ r, known d s = r := ⟨_, rfl⟩
  have HK := Lib.hid hk
  have hR : read d s = (fh, ec) := by unfold read; rw [hk]
  rw [hR]
  clear hk hR
  go_enter Try.func14, Try.ntmps14
  go_wp2_with fail
  refine (known_walk _ g b d HI.out s hs).mono ?_
  rw [HK.out]
  rintro e W1 ⟨rfl, hB1⟩
  have HB := Lib.hid (below_alloc hB1 (.cells #[.string fh, .int .i64 fs] 56))
  simp only [fileV]
  clear hB1
  go_wp2
  go_ret2
  exact ⟨rfl, HB.out⟩
set_option maxRecDepth 100000 in
set_option maxHeartbeats 1000000 in
theorem fuse_walk (W : World) (g b : Nat) (d : DS) (h : IsDk W g b d) (n : Int) (hn : n ≤ 9223372036854775807) : Calls Try.prog 16 #[.pointer (some ⟨g, 0, none⟩), .int .i64 n] W fun e W' => e = .returned (.int .i64 (fuse d n).2) ∧ IsDk W' g b (fuse d n).1 ∧ Fr (Two g b) W W' := by
  have HI := Lib.hid h
  have HFi := Lib.hid (fuse_fine h.fine n hn)
  by_cases hlt : n < 0
  · have hR : fuse d n = (d, 1) := by unfold fuse; rw [if_pos hlt]
    rw [hR]
    clear h hR HFi
    go_enter Try.func16, Try.ntmps16
    go_wp2
    go_ret
    exact ⟨rfl, HI.out, Fr.refl _ _⟩
  · have hR : fuse d n = ({ d with fused := true, left := n }, 0) := by unfold fuse; rw [if_neg hlt]
    rw [hR] at HFi ⊢
    have hge : 0 ≤ n := by omega
    have c1 := (blk_cell h.blk 1).trans (show _ = some (Value.bool d.fused) from rfl)
    have c3 := (blk_cell h.blk 3).trans (show _ = some (Value.int .i64 d.left) from rfl)
    have f1 := blk_frozen h.blk 1
    have f3 := blk_frozen h.blk 3
    clear h hR hlt
    go_enter Try.func16, Try.ntmps16
    go_wp2
    go_ret
    refine ⟨rfl, ⟨blk_put (blk_put HI.out.blk 1 _ rfl) 3 _ rfl, own_move (W := W.setCell ⟨g, 1, none⟩ (.bool true)) (own_move HI.out.own ?_) ?_, HFi.out⟩, ((Fr.refl _ _).set (.inl (.inl rfl)) _).set (.inl (.inl rfl)) _⟩
    · exact Below.heap_setCell W ⟨g, 1, none⟩ _ b fun e => HI.out.ne e.symm
    · exact Below.heap_setCell _ ⟨g, 3, none⟩ _ b fun e => HI.out.ne e.symm
set_option maxRecDepth 100000 in
set_option maxHeartbeats 1000000 in
theorem remove_walk (W : World) (g b : Nat) (d : DS) (h : IsDk W g b d) (s : ByteArray) (hs : s.size ≤ maxLen) : Calls Try.prog 32 #[.pointer (some ⟨g, 0, none⟩), .string s] W fun e W' => e = .returned (.int .i64 (remove d s).2) ∧ IsDk W' g b (remove d s).1 ∧ Fr (Two g b) W W' := by
  have HI := Lib.hid h
  have HFi := Lib.hid (remove_fine h.fine s)
  clear h
  obtain ⟨⟨d1, ⟨fh, fs⟩, ec⟩, hk⟩ : ∃ r, altered d s = r := ⟨_, rfl⟩
  have HK := Lib.hid hk
  have hm1 : d1.m = d.m := by have := altered_m d s; rw [hk] at this; exact this
  have HM1 := Lib.hid hm1
  by_cases he : ec = 0
  · subst he
    have hS : remove d s = ({ d1 with m := FM.del d.m s.data.toList }, 0) := by unfold remove; rw [hk, if_pos rfl]
    rw [hS] at HFi ⊢
    clear hk hm1 hS
    go_enter Try.func32, Try.ntmps32
    go_wp2_with fail
    refine (altered_walk W g b d HI.out s hs).mono ?_
    rw [HK.out]
    rintro e W1 ⟨rfl, hI1, hF1⟩
    have hI2 := hI1.below (below_alloc (Below.refl _ _) (.cells #[.string fh, .int .i64 fs] 56))
    have hF2 := hF1.alloc (.cells #[.string fh, .int .i64 fs] 56)
    simp only [fileV]
    have c0 := (blk_cell hI2.blk 0).trans (show _ = some (Value.map (some b)) from rfl)
    have HI2 := Lib.hid hI2
    have HF2 := Lib.hid hF2
    clear hI1 hF1 hI2 hF2
    go_wp2_with (first | (at_delete; refine step_del rfl _ _ rfl b d1.m rfl HI2.out.own s rfl hs ?_; intro W4 ho hg; rw [HM1.out] at ho; have HT := Lib.hid (HI2.out.turn ho hg HFi.out); have HF4 := Lib.hid (HF2.out.trans HT.out.2); clear ho hg c0))
    go_ret
    exact ⟨rfl, HT.out.1, HF4.out⟩
  · have hS : remove d s = (d1, ec) := by unfold remove; rw [hk, if_neg he]
    rw [hS]
    have heb : (ec == 0) = false := by simpa using he
    clear hk hm1 hS he
    go_enter Try.func32, Try.ntmps32
    go_wp2_with fail
    refine (altered_walk W g b d HI.out s hs).mono ?_
    rw [HK.out]
    rintro e W1 ⟨rfl, hI1, hF1⟩
    have HI2 := Lib.hid (hI1.below (below_alloc (Below.refl _ _) (.cells #[.string fh, .int .i64 fs] 56)))
    have HF2 := Lib.hid (hF1.alloc (.cells #[.string fh, .int .i64 fs] 56))
    simp only [fileV]
    clear hI1 hF1
    go_wp2
    go_ret
    exact ⟨rfl, HI2.out, HF2.out⟩
end Go.Proofs.Ytjkllbilfcopmaa.Dk
end

section
namespace Go.Proofs.Ytjkllbilfcopmaa.Dk
open Go.RowKit Go.Proofs.YtjkllbilfcopmaaW.PrintWords Go.Proofs.YtjkllbilfcopmaaW.PrintLast Go.Proofs.YtjkllbilfcopmaaW.PrintMore
set_option linter.unusedVariables false
set_option linter.unusedSimpArgs false
set_option maxRecDepth 100000 in
set_option maxHeartbeats 1000000 in
theorem rename_walk (W : World) (g b : Nat) (d : DS) (h : IsDk W g b d) (s t : ByteArray) (hs : s.size ≤ maxLen) (ht : t.size ≤ maxLen) : Calls Try.prog 17 #[.pointer (some ⟨g, 0, none⟩), .string s, .string t] W fun e W' => e = .returned (.int .i64 (rename d s t).2) ∧ IsDk W' g b (rename d s t).1 ∧ Fr (Two g b) W W' := by
  have HI := Lib.hid h
  have HFi := Lib.hid (rename_fine h.fine s t)
  clear h
  cases hn : nameOk s with
  | false =>
    have hS : rename d s t = (d, 10) := by unfold rename; rw [hn, if_pos rfl]
    rw [hS]
    have HN := Lib.hid hn
    clear hn hS HFi
    go_enter Try.func17, Try.ntmps17
    go_wp2_with fail
    refine (may_walk s _ hs).mono ?_
    rw [HN.out]
    rintro e w' ⟨rfl, rfl⟩
    go_wp2
    go_ret
    exact ⟨rfl, HI.out, Fr.refl _ _⟩
  | true =>
    have HN := Lib.hid hn
    cases hn2 : nameOk t with
    | false =>
      have hS : rename d s t = (d, 10) := by unfold rename; rw [hn, hn2, if_neg (by decide), if_pos rfl]
      rw [hS]
      have HN2 := Lib.hid hn2
      clear hn hn2 hS HFi
      go_enter Try.func17, Try.ntmps17
      go_wp2_with fail
      refine (may_walk s _ hs).mono ?_
      rw [HN.out]
      rintro e w' ⟨rfl, rfl⟩
      go_wp2_with fail
      refine (may_walk t _ ht).mono ?_
      rw [HN2.out]
      rintro e w' ⟨rfl, rfl⟩
      go_wp2
      go_ret
      exact ⟨rfl, HI.out, Fr.refl _ _⟩
    | true =>
      have HN2 := Lib.hid hn2
      obtain ⟨⟨d1, ⟨fh, fs⟩, ec⟩, hk⟩ : ∃ r, altered d s = r := ⟨_, rfl⟩
      have HK := Lib.hid hk
      have hm1 : d1.m = d.m := by have := altered_m d s; rw [hk] at this; exact this
      have HM1 := Lib.hid hm1
      by_cases he : ec = 0
      · subst he
        have hfile : file d s = ⟨fh, fs⟩ := by have := (altered_yes (d := d) (s := s) (by rw [hk])).2.2.2.2; rw [hk] at this; exact this.symm
        have hS : rename d s t = ({ d1 with m := FM.put (FM.del d.m s.data.toList) t.data.toList ⟨fh, fs⟩ }, 0) := by unfold rename; rw [hn, hn2, if_neg (by decide), if_neg (by decide), hk, if_pos rfl, hfile]
        rw [hS] at HFi ⊢
        clear hk hm1 hS hn hn2 hfile
        go_enter Try.func17, Try.ntmps17
        go_wp2_with fail
        refine (may_walk s _ hs).mono ?_
        rw [HN.out]
        rintro e w' ⟨rfl, rfl⟩
        go_wp2_with fail
        refine (may_walk t _ ht).mono ?_
        rw [HN2.out]
        rintro e w' ⟨rfl, rfl⟩
        go_wp2_with fail
        refine (altered_walk W g b d HI.out s hs).mono ?_
        rw [HK.out]
        rintro e W1 ⟨rfl, hI1, hF1⟩
        have hI2 := hI1.below (below_alloc (Below.refl _ _) (.cells #[.string fh, .int .i64 fs] 56))
        have hF2 := hF1.alloc (.cells #[.string fh, .int .i64 fs] 56)
        have h6 : FlAt (W1.alloc (.cells #[.string fh, .int .i64 fs] 56)) W1.heap.size ⟨fh, fs⟩ := heap_alloc_new W1 _
        simp only [fileV]
        have c0 := (blk_cell hI2.blk 0).trans (show _ = some (Value.map (some b)) from rfl)
        have HI2 := Lib.hid hI2
        have HF2 := Lib.hid hF2
        have H6 := Lib.hid h6
        clear hI1 hF1 hI2 hF2 h6
        have hfd : ∀ (W4 : World), Own W4 b (FM.del d.m s.data.toList) → (W1.alloc (.cells #[.string fh, .int .i64 fs] 56)).grownBy W4 (some b) → IsDk W4 g b { d1 with m := FM.del d.m s.data.toList } ∧ Fr (Two g b) (W1.alloc (.cells #[.string fh, .int .i64 fs] 56)) W4 := fun W4 ho hg =>
          HI2.out.turn ho hg ⟨fun p hp => HI2.out.fine.fls p (by rw [HM1.out]; exact (FM.mem_del.1 hp).1), Nat.le_trans (FM.len_del _ _) (by rw [← HM1.out]; exact HI2.out.fine.many), HI2.out.fine.left⟩
        have HD := Lib.hid hfd
        clear hfd
        go_wp2_with (first | (at_delete; refine step_del rfl _ _ rfl b d1.m rfl HI2.out.own s rfl hs ?_; intro W4 ho hg; rw [HM1.out] at ho; have HT := Lib.hid (HD.out W4 ho hg); have HF4 := Lib.hid (HF2.out.trans HT.out.2); clear ho hg c0))
        have hI4 := HT.out.1
        have h64 := H6.out.fr HT.out.2 (H6.out.not_two HI2.out)
        have hF4 := HF4.out
        generalize W1.heap.size = k6 at h64 ⊢
        have c0 : ({ W4 with drawn := W4.drawn + 1 } : World).cell? ⟨g, 0, none⟩ = some (.map (some b)) := (blk_cell hI4.blk 0).trans rfl
        have c60 : ({ W4 with drawn := W4.drawn + 1 } : World).cell? ⟨k6, 0, none⟩ = some (.string fh) := h64.cells.1
        have c61 : ({ W4 with drawn := W4.drawn + 1 } : World).cell? ⟨k6, 1, none⟩ = some (.int .i64 fs) := h64.cells.2.1
        have HI5 := Lib.hid (hI4.move rfl rfl : IsDk { W4 with drawn := W4.drawn + 1 } g b { d1 with m := FM.del d.m s.data.toList })
        have HF5 := Lib.hid (show Fr (Two g b) W { W4 with drawn := W4.drawn + 1 } from hF4.drew)
        clear hI4 h64 hF4 HT HF4
        refine wp_region_still_tail 6 (by kernel_rfl) (by kernel_rfl) ?_
        simp only [List.take_succ_cons, List.take_zero, List.drop_succ_cons, List.drop_zero]
        generalize ({ W4 with drawn := W4.drawn + 1 } : World) = W5 at *
        repeat still_step
        refine wpStill_nil ?_
        refine step_put rfl _ _ _ rfl b (FM.del d.m s.data.toList) rfl HI5.out.own (Nat.le_trans HI5.out.fine.many (by decide)) t ⟨fh, fs⟩ rfl rfl ht ?_
        intro W6 ho hg
        have HT := Lib.hid (HI5.out.turn ho hg HFi.out)
        have HF6 := Lib.hid (HF5.out.trans HT.out.2)
        clear ho hg c0 c60 c61
        go_wp2
        go_ret
        exact ⟨rfl, HT.out.1, HF6.out⟩
      · have hS : rename d s t = (d1, ec) := by unfold rename; rw [hn, hn2, if_neg (by decide), if_neg (by decide), hk, if_neg he]
        rw [hS]
        have heb : (ec == 0) = false := by simpa using he
        clear hk hm1 hS he hn hn2
        go_enter Try.func17, Try.ntmps17
        go_wp2_with fail
        refine (may_walk s _ hs).mono ?_
        rw [HN.out]
        rintro e w' ⟨rfl, rfl⟩
        go_wp2_with fail
        refine (may_walk t _ ht).mono ?_
        rw [HN2.out]
        rintro e w' ⟨rfl, rfl⟩
        go_wp2_with fail
        refine (altered_walk W g b d HI.out s hs).mono ?_
        rw [HK.out]
        rintro e W1 ⟨rfl, hI1, hF1⟩
        have HI2 := Lib.hid (hI1.below (below_alloc (Below.refl _ _) (.cells #[.string fh, .int .i64 fs] 56)))
        have HF2 := Lib.hid (hF1.alloc (.cells #[.string fh, .int .i64 fs] 56))
        simp only [fileV]
        clear hI1 hF1
        go_wp2
        go_ret
        exact ⟨rfl, HI2.out, HF2.out⟩
end Go.Proofs.Ytjkllbilfcopmaa.Dk
end

section
namespace Go.Proofs.Ytjkllbilfcopmaa.Dk
open Go.RowKit Go.Proofs.YtjkllbilfcopmaaW.PrintWords Go.Proofs.YtjkllbilfcopmaaW.PrintLast Go.Proofs.YtjkllbilfcopmaaW.PrintMore
set_option linter.unusedVariables false
set_option linter.unusedSimpArgs false
set_option maxRecDepth 100000 in
set_option maxHeartbeats 4000000 in
theorem append_walk (W : World) (g b : Nat) (d : DS) (h : IsDk W g b d) (s t : ByteArray) (hs : s.size ≤ maxLen) (ht : t.size ≤ 140737488351232) : Calls Try.prog 11 #[.pointer (some ⟨g, 0, none⟩), .string s, .string t] W fun e W' => e = .returned (.int .i64 (append d s t).2) ∧ IsDk W' g b (append d s t).1 ∧ Fr (Two g b) W W' := by
  have HI := Lib.hid h
  have HFi := Lib.hid (append_fine h.fine s t)
  have hfz := (h.fine.file s).2.2
  have c0 := (blk_cell h.blk 0).trans (show _ = some (Value.map (some b)) from rfl)
  clear h
  cases hn : nameOk s with
  | false =>
    have hS : append d s t = (d, 10) := by unfold append; rw [hn, if_pos rfl]
    rw [hS]
    have HN := Lib.hid hn
    clear hn hS HFi hfz
    go_enter Try.func11, Try.ntmps11
    go_wp2_with fail
    refine (may_walk s _ hs).mono ?_
    rw [HN.out]
    rintro e w' ⟨rfl, rfl⟩
    go_wp2
    go_ret
    exact ⟨rfl, HI.out, Fr.refl _ _⟩
  | true =>
    have HN := Lib.hid hn
    obtain ⟨⟨fh, fs⟩, hf⟩ : ∃ f, file d s = f := ⟨_, rfl⟩
    rw [hf] at hfz
    have hfz' : fh.size ≤ 262144 := hfz
    have HF := Lib.hid (show (FM.get d.m s.data.toList).getD z0 = ⟨fh, fs⟩ from hf)
    have hI1 := HI.out.below (below_alloc (Below.refl _ _) (.cells #[.string fh, .int .i64 fs] 56))
    have h6 : FlAt (W.alloc (.cells #[.string fh, .int .i64 fs] 56)) W.heap.size ⟨fh, fs⟩ := heap_alloc_new W _
    have HI1 := Lib.hid hI1
    have H6 := Lib.hid h6
    have HFr := Lib.hid ((Fr.refl (Two g b) W).alloc (.cells #[.string fh, .int .i64 fs] 56))
    have hc1 := (blk_cell hI1.blk 0).trans (show _ = some (Value.map (some b)) from rfl)
    clear hI1 h6 hfz
    by_cases hbig : 262144 < fh.size + t.size
    · have hS : append d s t = (d, 2) := by unfold append; rw [hn, if_neg (by decide), hf, if_pos hbig]
      rw [hS]
      have hbig' : (262144 : Int) < (fh.size : Int) + (t.size : Int) := by omega
      clear hn hf hS hbig HFi
      go_enter Try.func11, Try.ntmps11
      go_wp2_with fail
      refine (may_walk s _ hs).mono ?_
      rw [HN.out]
      rintro e w' ⟨rfl, rfl⟩
      go_wp2_with (first | (at_lookup; refine step_look rfl _ _ rfl b d.m rfl HI.out.own s rfl hs ?_; rw [HF.out]; simp only [fileV]))
      go_wp2
      go_ret
      exact ⟨rfl, HI1.out, HFr.out⟩
    · have hbig' : (fh.size : Int) + (t.size : Int) ≤ 262144 := by omega
      cases hth : there d s with
      | false =>
        by_cases hm : 64 ≤ d.m.length
        · have hlen := HI1.out.own.len Try.underlying51 3
          rw [FM.toD_size] at hlen
          have hS : append d s t = (d, 2) := by unfold append; rw [hn, if_neg (by decide), hf, if_neg hbig, if_pos ⟨hth, hm⟩]
          rw [hS]
          have HT := Lib.hid (show (FM.get d.m s.data.toList).isSome = false from hth)
          have hm' : (64 : Int) ≤ (d.m.length : Int) := by omega
          clear hn hf hS hbig HFi hth hm
          go_enter Try.func11, Try.ntmps11
          go_wp2_with fail
          refine (may_walk s _ hs).mono ?_
          rw [HN.out]
          rintro e w' ⟨rfl, rfl⟩
          go_wp2_with (first | (at_lookup; refine step_look rfl _ _ rfl b d.m rfl HI.out.own s rfl hs ?_; rw [HT.out, HF.out]; simp only [fileV]))
          go_ret
          exact ⟨rfl, HI1.out, HFr.out⟩
        · have hlen := HI1.out.own.len Try.underlying51 3
          rw [FM.toD_size] at hlen
          have hm' : (d.m.length : Int) < 64 := by omega
          have HT := Lib.hid (show (FM.get d.m s.data.toList).isSome = false from hth)
          have hsm : there d s = true ∨ d.m.length < 64 := .inr (by omega)
          have hA := append_eq d s t hn (by rw [hf]; show fh.size + t.size ≤ _; omega) hsm
          rw [hf] at hA
          have hcat : ¬ 9223372036854775807 < fh.size + t.size := by omega
          cases hok : d.ok with
          | false =>
            rw [hok, if_pos rfl] at hA
            rw [hA] at HFi ⊢
            have HOK := Lib.hid hok
            clear hn hf hbig hth hok hA hsm hm
            go_enter Try.func11, Try.ntmps11
            go_wp2_with fail
            refine (may_walk s _ hs).mono ?_
            rw [HN.out]
            rintro e w' ⟨rfl, rfl⟩
            go_wp2_with (first | (at_lookup; refine step_look rfl _ _ rfl b d.m rfl HI.out.own s rfl hs ?_; rw [HT.out, HF.out]; simp only [fileV]))
            refine (chg_walk _ g b d HI1.out).mono ?_
            rw [HOK.out]
            rintro e W2 ⟨rfl, hI2, hF2⟩
            have H62 := Lib.hid (H6.out.fr hF2 (H6.out.not_two HI1.out))
            have HI2 := Lib.hid hI2
            have HF2 := Lib.hid (HFr.out.trans hF2)
            clear hI2 hF2 c0 hc1
            go_wp2
            go_ret
            exact ⟨rfl, HI2.out, HF2.out⟩
          | true =>
            rw [hok, if_neg (by decide)] at hA
            rw [hA] at HFi ⊢
            have HOK := Lib.hid hok
            have HC := Lib.hid (chg_m d)
            clear hn hf hbig hth hok hA hsm hm
            go_enter Try.func11, Try.ntmps11
            go_wp2_with fail
            refine (may_walk s _ hs).mono ?_
            rw [HN.out]
            rintro e w' ⟨rfl, rfl⟩
            go_wp2_with (first | (at_lookup; refine step_look rfl _ _ rfl b d.m rfl HI.out.own s rfl hs ?_; rw [HT.out, HF.out]; simp only [fileV]))
            refine (chg_walk _ g b d HI1.out).mono ?_
            rw [HOK.out]
            rintro e W2 ⟨rfl, hI2, hF2⟩
            have H62 := Lib.hid (H6.out.fr hF2 (H6.out.not_two HI1.out))
            have HI2 := Lib.hid hI2
            have HF2 := Lib.hid (HFr.out.trans hF2)
            clear hI2 hF2 c0 hc1
            obtain ⟨k6, hk6⟩ : ∃ k, W.heap.size = k := ⟨_, rfl⟩
            have h62 := H62.out
            rw [hk6] at h62
            have hge := Nat.le_of_eq hk6
            have hn6 := h62.not_two HI2.out
            rw [hk6]
            obtain ⟨c60, c61, f60, f61⟩ := h62.cells
            have HP := Lib.hid (show FlAt (W2.setCell ⟨k6, 0, none⟩ (.string (fh ++ t))) k6 ⟨fh ++ t, fs⟩ from blk_put h62 0 _ rfl)
            have HI3 := Lib.hid (HI2.out.setFar hn6 0 (.string (fh ++ t)))
            have HF3 := Lib.hid (HF2.out.set (p := ⟨k6, 0, none⟩) (.inr hge) (.string (fh ++ t)))
            clear h62 hn6 hk6
            go_wp2_with fail
            generalize W2.setCell ⟨k6, 0, none⟩ (.string (fh ++ t)) = W3 at *
            have hI3 := HI3.out
            have h63 := HP.out
            have c0 : ({ W3 with drawn := W3.drawn + 1 } : World).cell? ⟨g, 0, none⟩ = some (.map (some b)) := (blk_cell hI3.blk 0).trans rfl
            have d60 : ({ W3 with drawn := W3.drawn + 1 } : World).cell? ⟨k6, 0, none⟩ = some (.string (fh ++ t)) := h63.cells.1
            have d61 : ({ W3 with drawn := W3.drawn + 1 } : World).cell? ⟨k6, 1, none⟩ = some (.int .i64 fs) := h63.cells.2.1
            have HI5 := Lib.hid (hI3.move rfl rfl : IsDk { W3 with drawn := W3.drawn + 1 } g b d.chg)
            have HF5 := Lib.hid (show Fr (Two g b) W { W3 with drawn := W3.drawn + 1 } from HF3.out.drew)
            clear hI3 h63 c60 c61 f60 f61
            refine wp_region_still_tail 6 (by kernel_rfl) (by kernel_rfl) ?_
            simp only [List.take_succ_cons, List.take_zero, List.drop_succ_cons, List.drop_zero]
            generalize ({ W3 with drawn := W3.drawn + 1 } : World) = W5 at *
            repeat still_step
            refine wpStill_nil ?_
            refine step_put rfl _ _ _ rfl b d.chg.m rfl HI5.out.own (Nat.le_trans HI5.out.fine.many (by decide)) s ⟨fh ++ t, fs⟩ rfl rfl hs ?_
            intro W6 ho hg
            rw [HC.out] at ho
            have HT6 := Lib.hid (HI5.out.turn ho hg HFi.out)
            have HF6 := Lib.hid (HF5.out.trans HT6.out.2)
            clear ho hg c0 d60 d61
            go_wp2
            go_ret
            exact ⟨rfl, HT6.out.1, HF6.out⟩
      | true =>
        have HT := Lib.hid (show (FM.get d.m s.data.toList).isSome = true from hth)
        have hsm : there d s = true ∨ d.m.length < 64 := .inl hth
        have hA := append_eq d s t hn (by rw [hf]; show fh.size + t.size ≤ _; omega) hsm
        rw [hf] at hA
        have hcat : ¬ 9223372036854775807 < fh.size + t.size := by omega
        cases hok : d.ok with
        | false =>
          rw [hok, if_pos rfl] at hA
          rw [hA] at HFi ⊢
          have HOK := Lib.hid hok
          clear hn hf hbig hth hok hA hsm 
          go_enter Try.func11, Try.ntmps11
          go_wp2_with fail
          refine (may_walk s _ hs).mono ?_
          rw [HN.out]
          rintro e w' ⟨rfl, rfl⟩
          go_wp2_with (first | (at_lookup; refine step_look rfl _ _ rfl b d.m rfl HI.out.own s rfl hs ?_; rw [HT.out, HF.out]; simp only [fileV]))
          refine (chg_walk _ g b d HI1.out).mono ?_
          rw [HOK.out]
          rintro e W2 ⟨rfl, hI2, hF2⟩
          have H62 := Lib.hid (H6.out.fr hF2 (H6.out.not_two HI1.out))
          have HI2 := Lib.hid hI2
          have HF2 := Lib.hid (HFr.out.trans hF2)
          clear hI2 hF2 c0 hc1
          go_wp2
          go_ret
          exact ⟨rfl, HI2.out, HF2.out⟩
        | true =>
          rw [hok, if_neg (by decide)] at hA
          rw [hA] at HFi ⊢
          have HOK := Lib.hid hok
          have HC := Lib.hid (chg_m d)
          clear hn hf hbig hth hok hA hsm 
          go_enter Try.func11, Try.ntmps11
          go_wp2_with fail
          refine (may_walk s _ hs).mono ?_
          rw [HN.out]
          rintro e w' ⟨rfl, rfl⟩
          go_wp2_with (first | (at_lookup; refine step_look rfl _ _ rfl b d.m rfl HI.out.own s rfl hs ?_; rw [HT.out, HF.out]; simp only [fileV]))
          refine (chg_walk _ g b d HI1.out).mono ?_
          rw [HOK.out]
          rintro e W2 ⟨rfl, hI2, hF2⟩
          have H62 := Lib.hid (H6.out.fr hF2 (H6.out.not_two HI1.out))
          have HI2 := Lib.hid hI2
          have HF2 := Lib.hid (HFr.out.trans hF2)
          clear hI2 hF2 c0 hc1
          obtain ⟨k6, hk6⟩ : ∃ k, W.heap.size = k := ⟨_, rfl⟩
          have h62 := H62.out
          rw [hk6] at h62
          have hge := Nat.le_of_eq hk6
          have hn6 := h62.not_two HI2.out
          rw [hk6]
          obtain ⟨c60, c61, f60, f61⟩ := h62.cells
          have HP := Lib.hid (show FlAt (W2.setCell ⟨k6, 0, none⟩ (.string (fh ++ t))) k6 ⟨fh ++ t, fs⟩ from blk_put h62 0 _ rfl)
          have HI3 := Lib.hid (HI2.out.setFar hn6 0 (.string (fh ++ t)))
          have HF3 := Lib.hid (HF2.out.set (p := ⟨k6, 0, none⟩) (.inr hge) (.string (fh ++ t)))
          clear h62 hn6 hk6
          go_wp2_with fail
          generalize W2.setCell ⟨k6, 0, none⟩ (.string (fh ++ t)) = W3 at *
          have hI3 := HI3.out
          have h63 := HP.out
          have c0 : ({ W3 with drawn := W3.drawn + 1 } : World).cell? ⟨g, 0, none⟩ = some (.map (some b)) := (blk_cell hI3.blk 0).trans rfl
          have d60 : ({ W3 with drawn := W3.drawn + 1 } : World).cell? ⟨k6, 0, none⟩ = some (.string (fh ++ t)) := h63.cells.1
          have d61 : ({ W3 with drawn := W3.drawn + 1 } : World).cell? ⟨k6, 1, none⟩ = some (.int .i64 fs) := h63.cells.2.1
          have HI5 := Lib.hid (hI3.move rfl rfl : IsDk { W3 with drawn := W3.drawn + 1 } g b d.chg)
          have HF5 := Lib.hid (show Fr (Two g b) W { W3 with drawn := W3.drawn + 1 } from HF3.out.drew)
          clear hI3 h63 c60 c61 f60 f61
          refine wp_region_still_tail 6 (by kernel_rfl) (by kernel_rfl) ?_
          simp only [List.take_succ_cons, List.take_zero, List.drop_succ_cons, List.drop_zero]
          generalize ({ W3 with drawn := W3.drawn + 1 } : World) = W5 at *
          repeat still_step
          refine wpStill_nil ?_
          refine step_put rfl _ _ _ rfl b d.chg.m rfl HI5.out.own (Nat.le_trans HI5.out.fine.many (by decide)) s ⟨fh ++ t, fs⟩ rfl rfl hs ?_
          intro W6 ho hg
          rw [HC.out] at ho
          have HT6 := Lib.hid (HI5.out.turn ho hg HFi.out)
          have HF6 := Lib.hid (HF5.out.trans HT6.out.2)
          clear ho hg c0 d60 d61
          go_wp2
          go_ret
          exact ⟨rfl, HT6.out.1, HF6.out⟩
end Go.Proofs.Ytjkllbilfcopmaa.Dk
end

section
namespace Go.Proofs.Ytjkllbilfcopmaa.Dk
open Go.RowKit Go.Maps Go.Sort Go.Shelf Go.Proofs.YtjkllbilfcopmaaW.PrintWords Go.Proofs.YtjkllbilfcopmaaW.PrintLast Go.Proofs.YtjkllbilfcopmaaW.PrintMore
set_option linter.unusedVariables false
set_option linter.unusedSimpArgs false
/-- slices.Sort's two contracts at this dump, at the fence that asks nothing. -/
theorem sorts40 (m : Nat) : AnyZ.SortsIn Try.prog Try.sorted40_ren Fence.wide m :=
  ⟨fun blk off cap ss W hH hblk hsz => callsIn_wide.2 (AnyM.slices_Sort_string Try.sort50 blk off cap ss W hH hblk hsz),
   fun p cap W => callsIn_wide.2 (AnyM.slices_Sort_string_none Try.sort50 p cap W)⟩
theorem maps_Keys_41 (mb : Option Nat) (W : World) : CallsIn Fence.wide 5 Try.prog 41 #[.map mb] W fun e w' => e = .returned (.func (.func 51) #[] #[.pointer (some ⟨W.heap.size, 0, none⟩)]) ∧ w' = W.alloc (.cells #[.map mb] 51) :=
  AnyZ.keys_in Try.keys41 Fence.wide 5 trivial rfl mb W
set_option maxHeartbeats 1000000 in
theorem slices_Sorted_keys {H : Type} (b nn : Nat) (D0 : DataW H) (R : Value → Option (DataW H × List MemPlace)) (w : World) (hown : w.ownsMap Try.prog 9 R b nn D0) (hmax : Maps.size D0 ≤ maxLen) (hbytes : Maps.size D0 * 16 ≤ 140737488355328) :
    CallsIn Fence.wide 5 Try.prog 40 #[.func (.func 51) #[] #[.pointer (some ⟨w.heap.size, 0, none⟩)]] (w.alloc (.cells #[.map (some b)] 51)) fun e w' => ∃ (v : Value) (ss : List (List UInt8)), e = .returned v ∧ ss.Perm (strKeys D0) ∧
      w'.ownsRow (w.alloc (.cells #[.map (some b)] 51)).heap.size 9 1 v ss.length ((ss.mergeSort (fun x y => decide (x ≤ y))).map encStr) ∧ (v = .slice none 0 0 ↔ ss = []) ∧ Below (w.alloc (.cells #[.map (some b)] 51)).heap.size (w.alloc (.cells #[.map (some b)] 51)) w' := by
  have hbl := hown.lt
  have hseq : SeqGives Fence.wide 2 Try.prog 51 #[.pointer (some ⟨w.heap.size, 0, none⟩)] encStr (fun ss => ss.Perm (strKeys D0)) (Maps.size D0) (w.alloc (.cells #[.map (some b)] 51)) :=
    AnyZ.keys_gives (ρ := Try.keys41_ren) { Try.keys41 with } Fence.wide _ trivial rfl (by omega) w.heap.size b nn D0 _ (by simp) (by simp) (by
      obtain ⟨es, clock, hb, Ft, hs, hD⟩ := hown
      exact ⟨es, clock, (Below.heap_alloc _ _ b hbl).trans hb, Ft, hs, hD⟩)
  exact AnyZ.sorted_in Try.sorted40 Fence.wide 5 trivial trivial trivial trivial rfl (by omega) (sorts40 _) (enters_of Try.func50 (by kernel_rfl) rfl) 51 #[.pointer (some ⟨w.heap.size, 0, none⟩)] trivial (enters_of Try.func51 (by kernel_rfl) rfl) _ _ hmax hbytes _ hseq
/-- The names as strings. -/
def nameL (d : DS) : List ByteArray := (FM.names d.m).map fun k => ⟨k.toArray⟩
set_option maxHeartbeats 1000000 in
theorem names_walk (W : World) (g b : Nat) (d : DS) (h : IsDk W g b d) : Calls Try.prog 27 #[.pointer (some ⟨g, 0, none⟩)] W fun e W' => ∃ v, e = .returned v ∧ W'.ownsRow W.heap.size 9 1 v (nameL d).length ((nameL d).map Value.string) ∧ Below W.heap.size W W' := by
  have HI := Lib.hid h
  have c0 := (blk_cell h.blk 0).trans (show _ = some (Value.map (some b)) from rfl)
  have hmax : Maps.size (FM.toD (H := Unit) fileD d.m) ≤ maxLen := by rw [FM.toD_size]; have := h.fine.many; unfold maxLen; omega
  have hbytes : Maps.size (FM.toD (H := Unit) fileD d.m) * 16 ≤ 140737488355328 := by rw [FM.toD_size]; have := h.fine.many; omega
  have HM := Lib.hid hmax
  have HBy := Lib.hid hbytes
  clear h hmax hbytes
  refine (callsIn_wide (n := 6)).1 ?_
  have hfK : Fence.wide.fn 41 := trivial
  have hfS : Fence.wide.fn 40 := trivial
  refine callsIn_of_wp Try.func27 rfl trivial ?_ rfl
  simp only [Try.ntmps27, List.size_toArray, List.length_cons, List.length_nil, Nat.reduceAdd, Nat.reduceSub, Array.replicate_succ, Array.replicate_zero, List.push_toArray, List.append_toArray, List.nil_append, List.cons_append]
  gi_wp2_with (first
    | (gi_at_call 41; refine (maps_Keys_41 _ _).mono ?_; rintro e w' ⟨rfl, rfl⟩)
    | (gi_at_call 40; refine (slices_Sorted_keys b d.m.length (FM.toD (H := Unit) fileD d.m) fileR W HI.out.own HM.out HBy.out).mono ?_; rintro e w' ⟨v, ss, rfl, hS, hrow, hnil, hb⟩))
  go_ret
  refine ⟨v, rfl, ?_, ((Below.refl _ W).alloc (Nat.le_refl _) _).trans (hb.mono (by simp))⟩
  have e1 := FM.names_of hS
  rw [e1] at hrow
  have e2 : (nameL d).length = ss.length := by unfold nameL; rw [List.length_map, ← e1, List.length_mergeSort]
  have e3 : (nameL d).map Value.string = (FM.names d.m).map encStr := by unfold nameL; rw [List.map_map]; rfl
  rw [e2, e3]
  exact ownsRow_base_a hrow (by simp)
end Go.Proofs.Ytjkllbilfcopmaa.Dk
end

section
namespace Go.Proofs.Ytjkllbilfcopmaa.Dk
open Go.RowKit Go.Proofs.YtjkllbilfcopmaaW.PrintWords Go.Proofs.YtjkllbilfcopmaaW.PrintLast Go.Proofs.YtjkllbilfcopmaaW.PrintMore
set_option linter.unusedVariables false
set_option linter.unusedSimpArgs false
theorem step_look1 {ops : Array Oper} {rest : List Oper} {o : Oper} {a : Act} {Q : Exit → Act → World → Prop} {W : World} (hg : o.guard = none) (m x : Operand) (hop : o.op = Op.lookup 51 m x false) (b : Nat) (fs : Fs) (hm : a.eval m = .map (some b)) (hown : Own W b fs) (s : ByteArray) (hx : a.eval x = .string s) (hs : s.size ≤ maxLen)
    (hK : wpList Try.prog ops Q rest (a.put o.dst (fileV ((FM.get fs s.data.toList).getD z0))) W) : wpList Try.prog ops Q (o :: rest) a W := by
  refine wpList_plain hg fun K' hK' => ?_
  have hrun := look_run (W := W) b fs hown s hs
  unfold Oper.wp
  simp [execOp, hop, hm, hx, hrun, Result.andThen]
  exact hK' _ _ hK
/-- A row of values at an address outside of S. -/
def RowAt {α : Type} (enc : α → Value) (d : α) (S : Nat → Prop) (W : World) (A : Option Addr) (xs : List α) : Prop :=
  xs.length ≤ maxLen ∧ (0 < xs.length → ∃ ad, A = some ad ∧ ¬ S ad.block ∧ ad.block < W.heap.size ∧ ∀ j, j < xs.length → W.cell? (ad.add j) = some (enc (xs.getD j d)))
section
variable {α : Type} {enc : α → Value} {d : α} {S : Nat → Prop} {W W1 : World} {A : Option Addr} {xs : List α}
theorem add_block' (ad : Addr) (j : Nat) : (ad.add j).block = ad.block := by
  obtain ⟨a, b, c⟩ := ad
  by_cases hj : j = 0 <;> simp [Addr.add, hj]
theorem RowAt.fr (h : RowAt enc d S W A xs) (hf : Fr S W W1) : RowAt enc d S W1 A xs := by
  refine ⟨h.1, fun hp => ?_⟩
  obtain ⟨ad, e, hn, hl, hc⟩ := h.2 hp
  refine ⟨ad, e, hn, Nat.lt_of_lt_of_le hl hf.size, fun j hj => ?_⟩
  rw [← hc j hj]
  exact World.cell?_of_block (by rw [add_block']; exact hf.block ad.block hl hn)
theorem RowAt.at_ (h : RowAt enc d S W A xs) (i : Nat) (hi : i < xs.length) : ∃ ad, A = some ad ∧ W.cell? (ad.add i) = some (enc (xs.getD i d)) := by
  obtain ⟨ad, e, _, _, hc⟩ := h.2 (by omega)
  exact ⟨ad, e, hc i hi⟩
theorem add_add (ad : Addr) (i j : Nat) : (ad.add i).add j = ad.add (i + j) := by
  obtain ⟨a, b, c⟩ := ad
  by_cases hi : i = 0 <;> by_cases hj : j = 0 <;> simp [Addr.add, hi, hj, Nat.add_assoc]
theorem RowAt.tail {x : α} {A1 : Option Addr} (h : RowAt enc d S W A (x :: xs)) (hA : 0 < xs.length → A1 = A.map (·.add (1 * 1))) : RowAt enc d S W A1 xs := by
  refine ⟨Nat.le_trans (Nat.le_succ _) h.1, fun hp => ?_⟩
  obtain ⟨ad, rfl, hn, hl, hc⟩ := h.2 (by simp)
  refine ⟨ad.add 1, by rw [hA hp]; rfl, by rw [add_block']; exact hn, by rw [add_block']; exact hl, fun j hj => ?_⟩
  have := hc (j + 1) (by simp; omega)
  rw [add_add, Nat.add_comm 1 j, this]
  simp [List.getD_eq_getElem?_getD]
end
theorem own_row {W : World} {base : Nat} {v : Value} {l : List ByteArray} {S : Nat → Prop} (h : W.ownsRow base 9 1 v l.length (l.map Value.string)) (hS : ∀ k, base ≤ k → ¬ S k) : ∃ A c, v = .slice A l.length c ∧ RowAt Value.string ByteArray.empty S W A l ∧ l.length ≤ c ∧ c ≤ maxLen := by
  rcases h.2 with ⟨rfl, h0⟩ | ⟨g, cap, cur, rfl, hb, hh, hnc, hcm, hcs, ht⟩
  · rw [h0]
    exact ⟨none, 0, rfl, ⟨by omega, fun hp => absurd hp (by omega)⟩, Nat.le_refl _, Nat.zero_le _⟩
  · refine ⟨some ⟨g, 0, none⟩, cap, rfl, ⟨Nat.le_trans hnc hcm, fun hp => ⟨_, rfl, hS g hb, blk_lt hh, fun j hj => ?_⟩⟩, hnc, hcm⟩
    rw [add_plain, blk_cell hh j]
    have e2 : cur[j]? = (cur.toList.take (l.length * 1))[j]? := by
      rw [List.getElem?_take, if_pos (by omega)]; simp
    rw [e2, ht, List.getElem?_map, List.getElem?_eq_getElem hj]
    simp [List.getD_eq_getElem?_getD, hj]
end Go.Proofs.Ytjkllbilfcopmaa.Dk
end

section
namespace Go.Proofs.Ytjkllbilfcopmaa.Dk
open Go.RowKit Go.Proofs.YtjkllbilfcopmaaW.PrintWords Go.Proofs.YtjkllbilfcopmaaW.PrintLast Go.Proofs.YtjkllbilfcopmaaW.PrintMore
set_option linter.unusedVariables false
set_option linter.unusedSimpArgs false
abbrev IntsAt := RowAt (Value.int .i64) (0 : Int)
abbrev StrsAt := RowAt Value.string ByteArray.empty
set_option maxRecDepth 100000 in
set_option maxHeartbeats 8000000 in
theorem crash_walk (W : World) (g b : Nat) (d : DS) (h : IsDk W g b d) (A : Option Addr) (dr : List Int) (c : Nat) (hA : IntsAt (Two g b) W A dr) (hc : dr.length ≤ c) (hcm : c ≤ maxLen) (hdr : ∀ x ∈ dr, -9223372036854775808 ≤ x ∧ x ≤ 9223372036854775807) :
    Calls Try.prog 13 #[.pointer (some ⟨g, 0, none⟩), .slice A dr.length c] W fun e W' => e = .returned (.int .i64 (crash d dr).2) ∧ IsDk W' g b (crash d dr).1 ∧ Fr (Two g b) W W' := by
  unfold maxLen at hcm
  have HI := Lib.hid h
  have HFi := Lib.hid (crash_fine h.fine dr)
  have HA := Lib.hid hA
  have HDR := Lib.hid hdr
  by_cases hbig : 4096 < dr.length
  · have hS : crash d dr = (d, 2) := by unfold crash; rw [if_pos hbig]
    rw [hS]
    have hb' : (4096 : Int) < (dr.length : Int) := by omega
    clear h hA hS hbig HFi hdr
    go_enter Try.func13, Try.ntmps13
    go_wp2
    go_ret
    exact ⟨rfl, HI.out, Fr.refl _ _⟩
  · have hS : crash d dr = (⟨crashL (FM.names d.m) dr d.m, false, false, 0⟩, 0) := by unfold crash; rw [if_neg hbig]
    rw [hS] at HFi ⊢
    have hb' : (dr.length : Int) ≤ 4096 := by omega
    obtain ⟨m0, hm0⟩ : ∃ m0, crashL (FM.names d.m) dr d.m = m0 := ⟨_, rfl⟩
    rw [hm0] at HFi ⊢
    have HM0 := Lib.hid hm0
    have c1 := (blk_cell h.blk 1).trans (show _ = some (Value.bool d.fused) from rfl)
    have c2 := (blk_cell h.blk 2).trans (show _ = some (Value.bool d.down) from rfl)
    have c3 := (blk_cell h.blk 3).trans (show _ = some (Value.int .i64 d.left) from rfl)
    have f1 := blk_frozen h.blk 1
    have f2 := blk_frozen h.blk 2
    have f3 := blk_frozen h.blk 3
    have hI1 : IsDk (((W.setCell ⟨g, 1, none⟩ (.bool false)).setCell ⟨g, 2, none⟩ (.bool false)).setCell ⟨g, 3, none⟩ (.int .i64 0)) g b ⟨d.m, false, false, 0⟩ := by
      refine ⟨blk_put (blk_put (blk_put h.blk 1 _ rfl) 2 _ rfl) 3 _ rfl, own_move h.own ?_, ⟨h.fine.fls, h.fine.many, Int.le_refl _, by show (0 : Int) ≤ _; decide⟩⟩
      rw [Below.heap_setCell _ ⟨g, 3, none⟩ _ b (fun e => h.ne e.symm), Below.heap_setCell _ ⟨g, 2, none⟩ _ b (fun e => h.ne e.symm), Below.heap_setCell _ ⟨g, 1, none⟩ _ b (fun e => h.ne e.symm)]
    have hF1 : Fr (Two g b) W (((W.setCell ⟨g, 1, none⟩ (.bool false)).setCell ⟨g, 2, none⟩ (.bool false)).setCell ⟨g, 3, none⟩ (.int .i64 0)) := (((Fr.refl _ _).set (.inl (.inl rfl)) _).set (.inl (.inl rfl)) _).set (.inl (.inl rfl)) _
    have HI1 := Lib.hid hI1
    have HF1 := Lib.hid hF1
    clear h hA hS hbig hm0 hI1 hF1 hdr
    go_enter Try.func13, Try.ntmps13
    go_wp2_with fail
    generalize ((W.setCell ⟨g, 1, none⟩ (.bool false)).setCell ⟨g, 2, none⟩ (.bool false)).setCell ⟨g, 3, none⟩ (.int .i64 0) = W1 at *
    refine (names_walk W1 g b _ HI1.out).mono ?_
    rintro e W2 ⟨v, rfl, hrow, hB2⟩
    obtain ⟨L, hL⟩ : ∃ L, nameL ⟨d.m, false, false, 0⟩ = L := ⟨_, rfl⟩
    rw [hL] at hrow
    have hg1 := HI1.out.lt
    obtain ⟨A2, k2, rfl, hN, hk2, hkm⟩ := own_row (S := Two g b) hrow (fun k hk e => by rcases e with e | e <;> omega)
    have hLl : L.length ≤ 64 := by rw [← hL]; unfold nameL; rw [List.length_map, FM.names_len]; exact HI1.out.fine.many
    have HL := Lib.hid hL
    have HN := Lib.hid hN
    have HI2 := Lib.hid (HI1.out.below hB2)
    have HF2 := Lib.hid (HF1.out.trans (Fr.of_below hB2))
    have HA2 := Lib.hid (HA.out.fr HF2.out)
    clear hrow hN hL hB2 hg1 HI1 HF1 c1 c2 c3 f1 f2 f3 hkm
    go_wp2_with fail
    have hkey : ∀ j, j < L.length → ∃ s, L.getD j ByteArray.empty = s ∧ s.size ≤ maxLen ∧ ∀ dr m, crashL ((FM.names d.m).drop j) dr m = crashL (s.data.toList :: (FM.names d.m).drop (j + 1)) dr m := fun j hj => by
      have hl : j < (FM.names d.m).length := by
        have := hj
        rw [← HL.out] at this
        unfold nameL at this
        rwa [List.length_map] at this
      have e : L.getD j ByteArray.empty = ⟨((FM.names d.m)[j]).toArray⟩ := by
        rw [← HL.out]; unfold nameL
        simp [List.getD_eq_getElem?_getD, hl]
      refine ⟨_, e, ?_, fun dr m => ?_⟩
      · obtain ⟨v, hv⟩ := FM.mem_names.1 (List.getElem_mem hl)
        have := (HI.out.fine.fls _ hv).2.2.2
        show ((FM.names d.m)[j]).toArray.size ≤ _
        unfold maxLen
        simp only [List.size_toArray]
        simp only at this
        omega
      · rw [List.drop_eq_getElem_cons hl]
    have HKEY := Lib.hid hkey
    have hstart : crashL ((FM.names d.m).drop 0) dr d.m = m0 := HM0.out
    have HST := Lib.hid hstart
    clear hkey hstart
    go_loopg [1, 25] (L.length + 1) (fun kq v1 v25 w' => ∃ (j : Nat) (A3 : Option Addr) (dr3 : List Int) (c3 : Nat) (m3 : Fs), v1 = .slice A3 dr3.length c3 ∧ v25 = .int .i64 (j : Int) ∧ Hid (j + kq = L.length + 1 ∧ j ≤ L.length ∧ dr3.length ≤ c3 ∧ c3 ≤ 9223372036854775807 ∧ dr3.length ≤ 4096) ∧ Hid (crashL ((FM.names d.m).drop j) dr3 m3 = m0) ∧ Hid (IsDk w' g b ⟨m3, false, false, 0⟩) ∧ Hid (Fr (Two g b) W w') ∧ Hid (IntsAt (Two g b) w' A3 dr3) ∧ Hid (StrsAt (Two g b) w' A2 L) ∧ Hid (∀ x ∈ dr3, -9223372036854775808 ≤ x ∧ x ≤ 9223372036854775807))
    case atStart => exact ⟨0, A, dr, c, d.m, rfl, rfl, Lib.hid ⟨by omega, Nat.zero_le _, hc, by omega, by omega⟩, HST, HI2, HF2, HA2, HN, HDR⟩
    case round =>
      clear HST HI2 HF2 HA2 HN HDR HA hc hb'
      obtain ⟨j, A3, dr3, c3, m3, rfl, rfl, HQ, HM, HD3, HF3, HA3, HN3, HR3⟩ := hrel
      obtain ⟨q1, q2, q3, q4, q5⟩ := HQ.out
      by_cases hj : j < L.length
      · obtain ⟨kq1, rfl⟩ : ∃ kq1, gk = kq1 + 1 := ⟨gk - 1, by omega⟩
        obtain ⟨s, hs0, hsz, hcr⟩ := HKEY.out j hj
        obtain ⟨ad2, rfl, hcell⟩ := HN3.out.at_ j hj
        rw [hs0] at hcell
        have hM := HM.out
        rw [hcr, crashL_cons] at hM
        have hji : (j : Int) < (L.length : Int) := by omega
        have c0 := (blk_cell HD3.out.blk 0).trans (show _ = some (Value.map (some b)) from rfl)
        have hff := HD3.out.fine.file s
        obtain ⟨⟨fh, fs⟩, hf⟩ : ∃ f, (FM.get m3 s.data.toList).getD z0 = f := ⟨_, rfl⟩
        have hf' : file ⟨m3, false, false, 0⟩ s = ⟨fh, fs⟩ := hf
        rw [hf'] at hff
        obtain ⟨b1, b2, b3⟩ := hff
        have b1' : 0 ≤ fs := b1
        have b2' : fs ≤ (fh.size : Int) := b2
        have b3' : fh.size ≤ 262144 := b3
        rw [hf] at hM
        have HFile := Lib.hid hf
        clear hf hf' hs0 hcr b1 b2 b3
        have HFal := Lib.hid (HF3.out.alloc (.cells #[.string fh, .int .i64 fs] 56))
        have HDal := Lib.hid (HD3.out.below (below_alloc (Below.refl _ _) (.cells #[.string fh, .int .i64 fs] 56)))
        have HAal := Lib.hid (HA3.out.fr ((Fr.refl (Two g b) wr).alloc (.cells #[.string fh, .int .i64 fs] 56)))
        have HNal := Lib.hid (HN3.out.fr ((Fr.refl (Two g b) wr).alloc (.cells #[.string fh, .int .i64 fs] 56)))
        by_cases htl : (fh.size : Int) - fs = 0
        · have htb : ((fh.size : Int) - fs == 0) = true := by simpa using htl
          have htl' : (fh.size : Int) = fs := by omega
          rw [if_pos (show tail ⟨fh, fs⟩ = 0 from htl)] at hM
          have HM' := Lib.hid hM
          clear hM htl htl'
          go_wp2_with (first | (at_lookup; refine step_look1 rfl _ _ rfl b m3 rfl HD3.out.own s rfl hsz ?_; rw [HFile.out]; simp only [fileV]))
          go_roundg kq1
          case measure => omega
          case rel => exact ⟨j + 1, A3, dr3, c3, m3, rfl, by go_num, Lib.hid ⟨by omega, by omega, q3, q4, q5⟩, HM', HDal, HFal, HAal, HNal, HR3⟩
        · have htb : ((fh.size : Int) - fs == 0) = false := by simpa using htl
          have ht1 : 0 < (fh.size : Int) - fs := by omega
          rw [if_neg (show ¬ tail ⟨fh, fs⟩ = 0 from htl)] at hM
          have HM' := Lib.hid hM
          have hfl : FlAt (wr.alloc (.cells #[.string fh, .int .i64 fs] 56)) wr.heap.size ⟨fh, fs⟩ := heap_alloc_new wr _
          clear hM htl
          match dr3 with
          | [] =>
            go_wp2_with (first | (at_lookup; refine step_look1 rfl _ _ rfl b m3 rfl HD3.out.own s rfl hsz ?_; rw [HFile.out]; simp only [fileV]))
            have hr1 := Int.emod_nonneg (0) (show (fh.size : Int) - fs + 1 ≠ 0 by omega)
            have hr2 := Int.emod_lt_of_pos (0) (show 0 < (fh.size : Int) - fs + 1 by omega)
            obtain ⟨kf, hkf⟩ : ∃ kf, wr.heap.size = kf := ⟨_, rfl⟩
            rw [hkf] at hfl
            obtain ⟨c70, c71, f70, f71⟩ := hfl.cells
            have hnk := hfl.not_two HDal.out
            have HK := Lib.hid (And.intro hnk (And.intro hfl (And.intro (show W.heap.size ≤ kf by have := HF3.out.size; omega) (Nat.le_of_eq hkf))))
            have HWa := Lib.hid ((Fr.refl (Two g b) wr).alloc (.cells #[.string fh, .int .i64 fs] 56))
            have hz1 : IntKind.i64.wrap ((fh.size : Int) - fs + 1) = (fh.size : Int) - fs + 1 := by rw [IntKind.wrap_i64]; omega
            have hz2 : ¬ ((fh.size : Int) - fs + 1 = 0) := by omega
            have hz3 : Int.tmod (0) ((fh.size : Int) - fs + 1) = (0) % ((fh.size : Int) - fs + 1) := Int.tmod_eq_emod_of_nonneg (by omega)
            obtain ⟨nn, hnn⟩ : ∃ nn : Nat, fs = (nn : Int) := ⟨(fs).toNat, by omega⟩
            have hz4 : IntKind.i64.wrap (fs) = fs := by rw [IntKind.wrap_i64]; omega
            have hnb : (nn : Int) ≤ (fh.size : Int) := by omega
            have HNN := Lib.hid hnn
            rw [hkf]
            clear hkf hnk hfl hcell c0 HD3 HF3 hnn HAal HNal
            generalize (wr.alloc (.cells #[.string fh, .int .i64 fs] 56)) = Wa at *
            have d71 : ({ Wa with drawn := (Wa).drawn + 1 } : World).cell? ⟨kf, 1, none⟩ = some (.int .i64 fs) := c71
            have g71 : ({ Wa with drawn := (Wa).drawn + 1 } : World).frozen? ⟨kf, 1, none⟩ = false := f71
            have HW := Lib.hid (show ∃ n, ({ Wa with drawn := (Wa).drawn + 1 } : World) = Wa.drewN n from ⟨1, rfl⟩)
            clear c70 c71 f70 f71
            refine wp_region_still_tail 8 (by kernel_rfl) (by kernel_rfl) ?_
            simp only [List.take_succ_cons, List.take_zero, List.drop_succ_cons, List.drop_zero]
            generalize ({ Wa with drawn := (Wa).drawn + 1 } : World) = Wb at *
            repeat still_step
            refine wpStill_nil ?_
            go_wp2_with fail
            clear hr1 hr2 hz1 hz2 hz3 hz4 d71 g71
            rw [HNN.out]
            have hWb : Fr (Two g b) Wa Wb := by obtain ⟨n, e⟩ := HW.out; rw [e]; exact (Fr.refl _ _).drewN n
            have hflb : FlAt Wb kf ⟨fh, fs⟩ := HK.out.2.1.fr hWb HK.out.1
            have hDb : IsDk Wb g b ⟨m3, false, false, 0⟩ := by obtain ⟨n, e⟩ := HW.out; rw [e]; exact HDal.out.below (pw_below_drewN (Below.refl _ _) n)
            have hflc : FlAt (Wb.setCell ⟨kf, 1, none⟩ (.int .i64 nn)) kf ⟨fh, nn⟩ := blk_put hflb 1 _ rfl
            have hDc := hDb.setFar HK.out.1 1 (.int .i64 nn)
            have hFc : Fr (Two g b) W (Wb.setCell ⟨kf, 1, none⟩ (.int .i64 nn)) := (HFal.out.trans hWb).set (.inr HK.out.2.2.1) _
            have hFr : Fr (Two g b) wr (Wb.setCell ⟨kf, 1, none⟩ (.int .i64 nn)) := (HWa.out.trans hWb).set (.inr HK.out.2.2.2) _
            generalize (Wb.setCell ⟨kf, 1, none⟩ (.int .i64 nn)) = Wc at *
            have c0 : ({ Wc with drawn := Wc.drawn + 1 } : World).cell? ⟨g, 0, none⟩ = some (.map (some b)) := (blk_cell hDc.blk 0).trans rfl
            have d70 : ({ Wc with drawn := Wc.drawn + 1 } : World).cell? ⟨kf, 0, none⟩ = some (.string fh) := hflc.cells.1
            have d71 : ({ Wc with drawn := Wc.drawn + 1 } : World).cell? ⟨kf, 1, none⟩ = some (.int .i64 nn) := hflc.cells.2.1
            have HDd := Lib.hid (hDc.move rfl rfl : IsDk { Wc with drawn := Wc.drawn + 1 } g b ⟨m3, false, false, 0⟩)
            have HFd := Lib.hid (show Fr (Two g b) W { Wc with drawn := Wc.drawn + 1 } from hFc.drew)
            have HFr := Lib.hid (show Fr (Two g b) wr { Wc with drawn := Wc.drawn + 1 } from hFr.drew)
            have hn0 : (0 : Int) ≤ (nn : Int) := by omega
            have hnb2 : nn ≤ fh.size := by omega
            clear hWb hflb hDb hflc hDc hFc hFr
            refine wp_region_still_tail 13 (by kernel_rfl) (by kernel_rfl) ?_
            simp only [List.take_succ_cons, List.take_zero, List.drop_succ_cons, List.drop_zero]
            generalize ({ Wc with drawn := Wc.drawn + 1 } : World) = Wd at *
            repeat still_step
            refine wpStill_nil ?_
            refine step_put rfl _ _ _ rfl b m3 rfl HDd.out.own (Nat.le_trans HDd.out.fine.many (by decide)) s ⟨fh.extract 0 nn, nn⟩ rfl rfl hsz ?_
            intro We ho hg
            have htorn : torn ⟨fh, fs⟩ (0) = ⟨fh.extract 0 nn, nn⟩ := by
              have e : fs + (max 0 (0)) % (tail ⟨fh, fs⟩ + 1) = (nn : Int) := by
                rw [← HNN.out]
                simp
              unfold torn
              rw [e, Int.toNat_natCast]
            have hput : crashL ((FM.names d.m).drop (j + 1)) ([]) (FM.put m3 s.data.toList ⟨fh.extract 0 nn, nn⟩) = m0 := by
              have h1 := HM'.out
              rw [← htorn]
              exact h1
            have hfin : AllFine (FM.put m3 s.data.toList ⟨fh.extract 0 nn, nn⟩) := by
              have h1 := torn_fine (m := m3) ⟨HDd.out.fine.fls, HDd.out.fine.many⟩ (n := s.data.toList) (by rw [HFile.out]; show ¬ (fh.size : Int) - fs = 0; omega) (0)
              rw [HFile.out, htorn] at h1
              exact h1
            have HT := Lib.hid (HDd.out.turn ho hg ⟨hfin.1, hfin.2, Int.le_refl _, by show (0 : Int) ≤ _; decide⟩)
            have HFe := Lib.hid (HFd.out.trans HT.out.2)
            have HFre := Lib.hid (HFr.out.trans HT.out.2)
            have HP := Lib.hid hput
            clear ho hg c0 d70 d71 hput hfin htorn
            go_wp2_with fail
            go_roundg kq1
            case measure => omega
            case rel => exact ⟨j + 1, A3, [], c3, _, rfl, by go_num, Lib.hid ⟨by omega, by omega, q3, q4, q5⟩, HP, HT.out.1, HFe, Lib.hid (HA3.out.fr HFre.out), Lib.hid (HN3.out.fr HFre.out), HR3⟩
          | x :: r =>
            obtain ⟨x1, x2⟩ := HR3.out x (by simp)
            obtain ⟨ad3, rfl, hcx0⟩ := HA3.out.at_ 0 (by simp)
            obtain ⟨ad3', e3, hcx1⟩ := HAal.out.at_ 0 (by simp)
            obtain rfl := Option.some.inj e3
            have hcx : (wr.alloc (.cells #[.string fh, .int .i64 fs] 56)).cell? ad3 = some (.int .i64 x) := by simpa [Addr.add] using hcx1
            clear hcx0 hcx1 e3
            obtain ⟨y, hy⟩ : ∃ y, max 0 x = y := ⟨_, rfl⟩
            have hy0 : 0 ≤ y := by omega
            have hy1 : y ≤ 9223372036854775807 := by omega
            have HY := Lib.hid hy
            clear hy
            by_cases hc31 : c3 = 1
            · have hr0 : r = [] := by
                have : r.length + 1 ≤ c3 := q3
                exact List.eq_nil_of_length_eq_zero (by omega)
              subst hr0
              subst hc31
              have HATail : ∀ W', Fr (Two g b) wr W' → IntsAt (Two g b) W' (some ad3) [] := fun W' _ => ⟨by simp, fun h => absurd h (by simp)⟩
              have HAT := Lib.hid HATail
              clear HATail
              go_wp2_with (first | (at_lookup; refine step_look1 rfl _ _ rfl b m3 rfl HD3.out.own s rfl hsz ?_; rw [HFile.out]; simp only [fileV]))
              have hr1 := Int.emod_nonneg (y) (show (fh.size : Int) - fs + 1 ≠ 0 by omega)
              have hr2 := Int.emod_lt_of_pos (y) (show 0 < (fh.size : Int) - fs + 1 by omega)
              obtain ⟨kf, hkf⟩ : ∃ kf, wr.heap.size = kf := ⟨_, rfl⟩
              rw [hkf] at hfl
              obtain ⟨c70, c71, f70, f71⟩ := hfl.cells
              have hnk := hfl.not_two HDal.out
              have HK := Lib.hid (And.intro hnk (And.intro hfl (And.intro (show W.heap.size ≤ kf by have := HF3.out.size; omega) (Nat.le_of_eq hkf))))
              have HWa := Lib.hid ((Fr.refl (Two g b) wr).alloc (.cells #[.string fh, .int .i64 fs] 56))
              have hz1 : IntKind.i64.wrap ((fh.size : Int) - fs + 1) = (fh.size : Int) - fs + 1 := by rw [IntKind.wrap_i64]; omega
              have hz2 : ¬ ((fh.size : Int) - fs + 1 = 0) := by omega
              have hz3 : Int.tmod (y) ((fh.size : Int) - fs + 1) = (y) % ((fh.size : Int) - fs + 1) := Int.tmod_eq_emod_of_nonneg (by omega)
              obtain ⟨nn, hnn⟩ : ∃ nn : Nat, fs + y % ((fh.size : Int) - fs + 1) = (nn : Int) := ⟨(fs + y % ((fh.size : Int) - fs + 1)).toNat, by omega⟩
              have hz4 : IntKind.i64.wrap (fs + y % ((fh.size : Int) - fs + 1)) = fs + y % ((fh.size : Int) - fs + 1) := by rw [IntKind.wrap_i64]; omega
              have hnb : (nn : Int) ≤ (fh.size : Int) := by omega
              have HNN := Lib.hid hnn
              rw [hkf]
              clear hkf hnk hfl hcell c0 HD3 HF3 hnn HAal HNal
              generalize (wr.alloc (.cells #[.string fh, .int .i64 fs] 56)) = Wa at *
              go_quiet (fail)
              go_wp2_with fail
              rw [HY.out]
              have d71 : ({ (Wa.drewN nq) with drawn := ((Wa.drewN nq)).drawn + 1 } : World).cell? ⟨kf, 1, none⟩ = some (.int .i64 fs) := c71
              have g71 : ({ (Wa.drewN nq) with drawn := ((Wa.drewN nq)).drawn + 1 } : World).frozen? ⟨kf, 1, none⟩ = false := f71
              have HW := Lib.hid (show ∃ n, ({ (Wa.drewN nq) with drawn := ((Wa.drewN nq)).drawn + 1 } : World) = Wa.drewN n from ⟨nq + 1, rfl⟩)
              clear c70 c71 f70 f71
              refine wp_region_still_tail 8 (by kernel_rfl) (by kernel_rfl) ?_
              simp only [List.take_succ_cons, List.take_zero, List.drop_succ_cons, List.drop_zero]
              generalize ({ (Wa.drewN nq) with drawn := ((Wa.drewN nq)).drawn + 1 } : World) = Wb at *
              repeat still_step
              refine wpStill_nil ?_
              go_wp2_with fail
              clear hr1 hr2 hz1 hz2 hz3 hz4 d71 g71
              rw [HNN.out]
              have hWb : Fr (Two g b) Wa Wb := by obtain ⟨n, e⟩ := HW.out; rw [e]; exact (Fr.refl _ _).drewN n
              have hflb : FlAt Wb kf ⟨fh, fs⟩ := HK.out.2.1.fr hWb HK.out.1
              have hDb : IsDk Wb g b ⟨m3, false, false, 0⟩ := by obtain ⟨n, e⟩ := HW.out; rw [e]; exact HDal.out.below (pw_below_drewN (Below.refl _ _) n)
              have hflc : FlAt (Wb.setCell ⟨kf, 1, none⟩ (.int .i64 nn)) kf ⟨fh, nn⟩ := blk_put hflb 1 _ rfl
              have hDc := hDb.setFar HK.out.1 1 (.int .i64 nn)
              have hFc : Fr (Two g b) W (Wb.setCell ⟨kf, 1, none⟩ (.int .i64 nn)) := (HFal.out.trans hWb).set (.inr HK.out.2.2.1) _
              have hFr : Fr (Two g b) wr (Wb.setCell ⟨kf, 1, none⟩ (.int .i64 nn)) := (HWa.out.trans hWb).set (.inr HK.out.2.2.2) _
              generalize (Wb.setCell ⟨kf, 1, none⟩ (.int .i64 nn)) = Wc at *
              have c0 : ({ Wc with drawn := Wc.drawn + 1 } : World).cell? ⟨g, 0, none⟩ = some (.map (some b)) := (blk_cell hDc.blk 0).trans rfl
              have d70 : ({ Wc with drawn := Wc.drawn + 1 } : World).cell? ⟨kf, 0, none⟩ = some (.string fh) := hflc.cells.1
              have d71 : ({ Wc with drawn := Wc.drawn + 1 } : World).cell? ⟨kf, 1, none⟩ = some (.int .i64 nn) := hflc.cells.2.1
              have HDd := Lib.hid (hDc.move rfl rfl : IsDk { Wc with drawn := Wc.drawn + 1 } g b ⟨m3, false, false, 0⟩)
              have HFd := Lib.hid (show Fr (Two g b) W { Wc with drawn := Wc.drawn + 1 } from hFc.drew)
              have HFr := Lib.hid (show Fr (Two g b) wr { Wc with drawn := Wc.drawn + 1 } from hFr.drew)
              have hn0 : (0 : Int) ≤ (nn : Int) := by omega
              have hnb2 : nn ≤ fh.size := by omega
              clear hWb hflb hDb hflc hDc hFc hFr
              refine wp_region_still_tail 13 (by kernel_rfl) (by kernel_rfl) ?_
              simp only [List.take_succ_cons, List.take_zero, List.drop_succ_cons, List.drop_zero]
              generalize ({ Wc with drawn := Wc.drawn + 1 } : World) = Wd at *
              repeat still_step
              refine wpStill_nil ?_
              refine step_put rfl _ _ _ rfl b m3 rfl HDd.out.own (Nat.le_trans HDd.out.fine.many (by decide)) s ⟨fh.extract 0 nn, nn⟩ rfl rfl hsz ?_
              intro We ho hg
              have htorn : torn ⟨fh, fs⟩ (x) = ⟨fh.extract 0 nn, nn⟩ := by
                have e : fs + (max 0 (x)) % (tail ⟨fh, fs⟩ + 1) = (nn : Int) := by
                  rw [← HNN.out]
                  show fs + (max 0 x) % ((fh.size : Int) - fs + 1) = _
                  rw [HY.out]
                unfold torn
                rw [e, Int.toNat_natCast]
              have hput : crashL ((FM.names d.m).drop (j + 1)) ([]) (FM.put m3 s.data.toList ⟨fh.extract 0 nn, nn⟩) = m0 := by
                have h1 := HM'.out
                rw [← htorn]
                exact h1
              have hfin : AllFine (FM.put m3 s.data.toList ⟨fh.extract 0 nn, nn⟩) := by
                have h1 := torn_fine (m := m3) ⟨HDd.out.fine.fls, HDd.out.fine.many⟩ (n := s.data.toList) (by rw [HFile.out]; show ¬ (fh.size : Int) - fs = 0; omega) (x)
                rw [HFile.out, htorn] at h1
                exact h1
              have HT := Lib.hid (HDd.out.turn ho hg ⟨hfin.1, hfin.2, Int.le_refl _, by show (0 : Int) ≤ _; decide⟩)
              have HFe := Lib.hid (HFd.out.trans HT.out.2)
              have HFre := Lib.hid (HFr.out.trans HT.out.2)
              have HP := Lib.hid hput
              clear ho hg c0 d70 d71 hput hfin htorn
              go_wp2_with fail
              go_roundg kq1
              case measure => omega
              case rel => exact ⟨j + 1, some ad3, [], 0, _, rfl, by go_num, Lib.hid ⟨by omega, by omega, by have : ([] : List Int).length + 1 ≤ _ := q3; omega, by omega, by have : ([] : List Int).length + 1 ≤ 4096 := q5; omega⟩, HP, HT.out.1, HFe, Lib.hid (HAT.out _ HFre.out), Lib.hid (HN3.out.fr HFre.out), Lib.hid (fun z hz => HR3.out z (by simp [hz]))⟩
            · have hge : 1 ≤ c3 := by have : r.length + 1 ≤ c3 := q3; omega
              have HATail : ∀ W', Fr (Two g b) wr W' → IntsAt (Two g b) W' (some (ad3.add 1)) r := fun W' hf => RowAt.tail (HA3.out.fr hf) (fun _ => rfl)
              have HAT := Lib.hid HATail
              clear HATail
              go_wp2_with (first | (at_lookup; refine step_look1 rfl _ _ rfl b m3 rfl HD3.out.own s rfl hsz ?_; rw [HFile.out]; simp only [fileV]))
              have hr1 := Int.emod_nonneg (y) (show (fh.size : Int) - fs + 1 ≠ 0 by omega)
              have hr2 := Int.emod_lt_of_pos (y) (show 0 < (fh.size : Int) - fs + 1 by omega)
              obtain ⟨kf, hkf⟩ : ∃ kf, wr.heap.size = kf := ⟨_, rfl⟩
              rw [hkf] at hfl
              obtain ⟨c70, c71, f70, f71⟩ := hfl.cells
              have hnk := hfl.not_two HDal.out
              have HK := Lib.hid (And.intro hnk (And.intro hfl (And.intro (show W.heap.size ≤ kf by have := HF3.out.size; omega) (Nat.le_of_eq hkf))))
              have HWa := Lib.hid ((Fr.refl (Two g b) wr).alloc (.cells #[.string fh, .int .i64 fs] 56))
              have hz1 : IntKind.i64.wrap ((fh.size : Int) - fs + 1) = (fh.size : Int) - fs + 1 := by rw [IntKind.wrap_i64]; omega
              have hz2 : ¬ ((fh.size : Int) - fs + 1 = 0) := by omega
              have hz3 : Int.tmod (y) ((fh.size : Int) - fs + 1) = (y) % ((fh.size : Int) - fs + 1) := Int.tmod_eq_emod_of_nonneg (by omega)
              obtain ⟨nn, hnn⟩ : ∃ nn : Nat, fs + y % ((fh.size : Int) - fs + 1) = (nn : Int) := ⟨(fs + y % ((fh.size : Int) - fs + 1)).toNat, by omega⟩
              have hz4 : IntKind.i64.wrap (fs + y % ((fh.size : Int) - fs + 1)) = fs + y % ((fh.size : Int) - fs + 1) := by rw [IntKind.wrap_i64]; omega
              have hnb : (nn : Int) ≤ (fh.size : Int) := by omega
              have HNN := Lib.hid hnn
              rw [hkf]
              clear hkf hnk hfl hcell c0 HD3 HF3 hnn HAal HNal
              generalize (wr.alloc (.cells #[.string fh, .int .i64 fs] 56)) = Wa at *
              go_quiet (fail)
              go_wp2_with fail
              rw [HY.out]
              have d71 : ({ (Wa.drewN nq) with drawn := ((Wa.drewN nq)).drawn + 1 } : World).cell? ⟨kf, 1, none⟩ = some (.int .i64 fs) := c71
              have g71 : ({ (Wa.drewN nq) with drawn := ((Wa.drewN nq)).drawn + 1 } : World).frozen? ⟨kf, 1, none⟩ = false := f71
              have HW := Lib.hid (show ∃ n, ({ (Wa.drewN nq) with drawn := ((Wa.drewN nq)).drawn + 1 } : World) = Wa.drewN n from ⟨nq + 1, rfl⟩)
              clear c70 c71 f70 f71
              refine wp_region_still_tail 8 (by kernel_rfl) (by kernel_rfl) ?_
              simp only [List.take_succ_cons, List.take_zero, List.drop_succ_cons, List.drop_zero]
              generalize ({ (Wa.drewN nq) with drawn := ((Wa.drewN nq)).drawn + 1 } : World) = Wb at *
              repeat still_step
              refine wpStill_nil ?_
              go_wp2_with fail
              clear hr1 hr2 hz1 hz2 hz3 hz4 d71 g71
              rw [HNN.out]
              have hWb : Fr (Two g b) Wa Wb := by obtain ⟨n, e⟩ := HW.out; rw [e]; exact (Fr.refl _ _).drewN n
              have hflb : FlAt Wb kf ⟨fh, fs⟩ := HK.out.2.1.fr hWb HK.out.1
              have hDb : IsDk Wb g b ⟨m3, false, false, 0⟩ := by obtain ⟨n, e⟩ := HW.out; rw [e]; exact HDal.out.below (pw_below_drewN (Below.refl _ _) n)
              have hflc : FlAt (Wb.setCell ⟨kf, 1, none⟩ (.int .i64 nn)) kf ⟨fh, nn⟩ := blk_put hflb 1 _ rfl
              have hDc := hDb.setFar HK.out.1 1 (.int .i64 nn)
              have hFc : Fr (Two g b) W (Wb.setCell ⟨kf, 1, none⟩ (.int .i64 nn)) := (HFal.out.trans hWb).set (.inr HK.out.2.2.1) _
              have hFr : Fr (Two g b) wr (Wb.setCell ⟨kf, 1, none⟩ (.int .i64 nn)) := (HWa.out.trans hWb).set (.inr HK.out.2.2.2) _
              generalize (Wb.setCell ⟨kf, 1, none⟩ (.int .i64 nn)) = Wc at *
              have c0 : ({ Wc with drawn := Wc.drawn + 1 } : World).cell? ⟨g, 0, none⟩ = some (.map (some b)) := (blk_cell hDc.blk 0).trans rfl
              have d70 : ({ Wc with drawn := Wc.drawn + 1 } : World).cell? ⟨kf, 0, none⟩ = some (.string fh) := hflc.cells.1
              have d71 : ({ Wc with drawn := Wc.drawn + 1 } : World).cell? ⟨kf, 1, none⟩ = some (.int .i64 nn) := hflc.cells.2.1
              have HDd := Lib.hid (hDc.move rfl rfl : IsDk { Wc with drawn := Wc.drawn + 1 } g b ⟨m3, false, false, 0⟩)
              have HFd := Lib.hid (show Fr (Two g b) W { Wc with drawn := Wc.drawn + 1 } from hFc.drew)
              have HFr := Lib.hid (show Fr (Two g b) wr { Wc with drawn := Wc.drawn + 1 } from hFr.drew)
              have hn0 : (0 : Int) ≤ (nn : Int) := by omega
              have hnb2 : nn ≤ fh.size := by omega
              clear hWb hflb hDb hflc hDc hFc hFr
              refine wp_region_still_tail 13 (by kernel_rfl) (by kernel_rfl) ?_
              simp only [List.take_succ_cons, List.take_zero, List.drop_succ_cons, List.drop_zero]
              generalize ({ Wc with drawn := Wc.drawn + 1 } : World) = Wd at *
              repeat still_step
              refine wpStill_nil ?_
              refine step_put rfl _ _ _ rfl b m3 rfl HDd.out.own (Nat.le_trans HDd.out.fine.many (by decide)) s ⟨fh.extract 0 nn, nn⟩ rfl rfl hsz ?_
              intro We ho hg
              have htorn : torn ⟨fh, fs⟩ (x) = ⟨fh.extract 0 nn, nn⟩ := by
                have e : fs + (max 0 (x)) % (tail ⟨fh, fs⟩ + 1) = (nn : Int) := by
                  rw [← HNN.out]
                  show fs + (max 0 x) % ((fh.size : Int) - fs + 1) = _
                  rw [HY.out]
                unfold torn
                rw [e, Int.toNat_natCast]
              have hput : crashL ((FM.names d.m).drop (j + 1)) (r) (FM.put m3 s.data.toList ⟨fh.extract 0 nn, nn⟩) = m0 := by
                have h1 := HM'.out
                rw [← htorn]
                exact h1
              have hfin : AllFine (FM.put m3 s.data.toList ⟨fh.extract 0 nn, nn⟩) := by
                have h1 := torn_fine (m := m3) ⟨HDd.out.fine.fls, HDd.out.fine.many⟩ (n := s.data.toList) (by rw [HFile.out]; show ¬ (fh.size : Int) - fs = 0; omega) (x)
                rw [HFile.out, htorn] at h1
                exact h1
              have HT := Lib.hid (HDd.out.turn ho hg ⟨hfin.1, hfin.2, Int.le_refl _, by show (0 : Int) ≤ _; decide⟩)
              have HFe := Lib.hid (HFd.out.trans HT.out.2)
              have HFre := Lib.hid (HFr.out.trans HT.out.2)
              have HP := Lib.hid hput
              clear ho hg c0 d70 d71 hput hfin htorn
              go_wp2_with fail
              go_roundg kq1
              case measure => omega
              case rel => exact ⟨j + 1, some (ad3.add 1), r, c3 - 1, _, rfl, by go_num, Lib.hid ⟨by omega, by omega, by have : r.length + 1 ≤ _ := q3; omega, by omega, by have : r.length + 1 ≤ 4096 := q5; omega⟩, HP, HT.out.1, HFe, Lib.hid (HAT.out _ HFre.out), Lib.hid (HN3.out.fr HFre.out), Lib.hid (fun z hz => HR3.out z (by simp [hz]))⟩
      · have hji : ¬ (j : Int) < (L.length : Int) := by omega
        have hM := HM.out
        have hl : (FM.names d.m).length ≤ j := by
          have : L.length = (FM.names d.m).length := by rw [← HL.out]; unfold nameL; rw [List.length_map]
          omega
        rw [List.drop_eq_nil_of_le hl] at hM
        have HM' := Lib.hid (show m3 = m0 from hM)
        clear hM hl q1 q2 q3 q4 q5 hj
        go_wp2
        go_ret
        have hD := HD3.out
        rw [HM'.out] at hD
        exact ⟨rfl, hD, HF3.out⟩
end Go.Proofs.Ytjkllbilfcopmaa.Dk
end

section
namespace Go.Proofs.Ytjkllbilfcopmaa.Dk
open Go.RowKit Go.Proofs.YtjkllbilfcopmaaW.PrintWords Go.Proofs.YtjkllbilfcopmaaW.PrintLast Go.Proofs.YtjkllbilfcopmaaW.PrintMore
set_option linter.unusedVariables false
set_option linter.unusedSimpArgs false
/-- A disk that the call itself has made. -/
structure At (w0 W : World) (g b : Nat) (d : DS) : Prop where
  dk : IsDk W g b d
  geg : w0.heap.size ≤ g
  geb : w0.heap.size ≤ b
  bel : Below w0.heap.size w0 W
theorem At.two {w0 W : World} {g b : Nat} {d : DS} (h : At w0 W g b d) : ∀ k, Two g b k → w0.heap.size ≤ k := fun k hk => by
  rcases hk with rfl | rfl
  · exact h.geg
  · exact h.geb
theorem At.step {w0 W W1 : World} {g b : Nat} {d d1 : DS} (h : At w0 W g b d) (hI : IsDk W1 g b d1) (hf : Fr (Two g b) W W1) : At w0 W1 g b d1 := ⟨hI, h.geg, h.geb, hf.below h.bel h.two⟩
theorem At.below {w0 W W1 : World} {g b : Nat} {d : DS} (h : At w0 W g b d) (hb : Below W.heap.size W W1) : At w0 W1 g b d := ⟨h.dk.below hb, h.geg, h.geb, below_step h.bel hb⟩
theorem At.alloc {w0 W : World} {g b : Nat} {d : DS} (h : At w0 W g b d) (o : Obj) : At w0 (W.alloc o) g b d := h.below (below_alloc (Below.refl _ _) o)
theorem new_at (w0 W : World) (hB : Below w0.heap.size w0 W) : Calls Try.prog 9 #[] W fun e W' => ∃ g b, e = .returned (.pointer (some ⟨g, 0, none⟩)) ∧ At w0 W' g b new :=
  (new_walk W).mono fun e W' ⟨he, hI, hb⟩ => ⟨_, _, he, hI, by have := hB.size; omega, hB.size, below_step hB hb⟩
section
variable {w0 W : World} {g b : Nat} {d : DS}
theorem append_at (h : At w0 W g b d) (s t : ByteArray) (hs : s.size ≤ maxLen) (ht : t.size ≤ 140737488351232) : Calls Try.prog 11 #[.pointer (some ⟨g, 0, none⟩), .string s, .string t] W fun e W' => e = .returned (.int .i64 (append d s t).2) ∧ At w0 W' g b (append d s t).1 :=
  (append_walk W g b d h.dk s t hs ht).mono fun e W' ⟨he, hI, hf⟩ => ⟨he, h.step hI hf⟩
theorem sync_at (h : At w0 W g b d) (s : ByteArray) (hs : s.size ≤ maxLen) : Calls Try.prog 12 #[.pointer (some ⟨g, 0, none⟩), .string s] W fun e W' => e = .returned (.int .i64 (sync d s).2) ∧ At w0 W' g b (sync d s).1 :=
  (sync_walk W g b d h.dk s hs).mono fun e W' ⟨he, hI, hf⟩ => ⟨he, h.step hI hf⟩
theorem rename_at (h : At w0 W g b d) (s t : ByteArray) (hs : s.size ≤ maxLen) (ht : t.size ≤ maxLen) : Calls Try.prog 17 #[.pointer (some ⟨g, 0, none⟩), .string s, .string t] W fun e W' => e = .returned (.int .i64 (rename d s t).2) ∧ At w0 W' g b (rename d s t).1 :=
  (rename_walk W g b d h.dk s t hs ht).mono fun e W' ⟨he, hI, hf⟩ => ⟨he, h.step hI hf⟩
theorem fuse_at (h : At w0 W g b d) (n : Int) (hn : n ≤ 9223372036854775807) : Calls Try.prog 16 #[.pointer (some ⟨g, 0, none⟩), .int .i64 n] W fun e W' => e = .returned (.int .i64 (fuse d n).2) ∧ At w0 W' g b (fuse d n).1 :=
  (fuse_walk W g b d h.dk n hn).mono fun e W' ⟨he, hI, hf⟩ => ⟨he, h.step hI hf⟩
theorem read_at (h : At w0 W g b d) (s : ByteArray) (hs : s.size ≤ maxLen) : Calls Try.prog 14 #[.pointer (some ⟨g, 0, none⟩), .string s] W fun e W' => e = .returned (.tuple #[.string (read d s).1, .int .i64 (read d s).2]) ∧ At w0 W' g b d :=
  (read_walk W g b d h.dk s hs).mono fun e W' ⟨he, hb⟩ => ⟨he, h.below hb⟩
theorem crash_at (h : At w0 W g b d) (A : Option Addr) (dr : List Int) (c : Nat) (hA : IntsAt (Two g b) W A dr) (hc : dr.length ≤ c) (hcm : c ≤ maxLen) (hdr : ∀ x ∈ dr, -9223372036854775808 ≤ x ∧ x ≤ 9223372036854775807) :
    Calls Try.prog 13 #[.pointer (some ⟨g, 0, none⟩), .slice A dr.length c] W fun e W' => e = .returned (.int .i64 (crash d dr).2) ∧ At w0 W' g b (crash d dr).1 ∧ Fr (Two g b) W W' :=
  (crash_walk W g b d h.dk A dr c hA hc hcm hdr).mono fun e W' ⟨he, hI, hf⟩ => ⟨he, h.step hI hf, hf⟩
/-- A slice of one number. -/
theorem one_int (h : At w0 W g b d) (x : Int) : IntsAt (Two g b) (W.alloc (.cells #[.int .i64 x] 3)) (some ⟨W.heap.size, 0, none⟩) [x] := by
  refine ⟨by simp [maxLen], fun _ => ⟨_, rfl, ?_, by simp, fun j hj => ?_⟩⟩
  · have := h.dk.lt
    rintro (e | e)
    · have e' : W.heap.size = g := e
      omega
    · have e' : W.heap.size = b := e
      omega
  · have : j = 0 := by simpa using hj
    subst this
    rw [add_plain, blk_cell (heap_alloc_new W _) 0]
    rfl
theorem none_ints (S : Nat → Prop) (W : World) : IntsAt S W none [] := ⟨by simp, fun h => absurd h (by simp)⟩
end
theorem works_torn : torn ⟨⟨#[120]⟩ ++ ⟨#[121, 122]⟩, 1⟩ 1 = ⟨⟨#[120, 121]⟩, 2⟩ := by rfl
set_option maxRecDepth 100000 in
set_option maxHeartbeats 4000000 in
theorem works_walk (W : World) : Calls Try.prog 10 #[] W fun e W' => e = .returned (.bool true) ∧ Below W.heap.size W W' := by
  go_enter Try.func10, Try.ntmps10
  go_wp2_with fail
  refine (new_at W W (Below.refl _ _)).mono ?_
  rintro e W1 ⟨g, b, rfl, hA⟩
  have HA := Lib.hid hA
  clear hA
  go_wp2_with fail
  refine (append_at HA.out nA ⟨#[120]⟩ (by decide) (by decide)).mono ?_
  rw [app_new _ (by decide)]
  rintro e W2 ⟨rfl, hA⟩
  have HA2 := Lib.hid hA
  clear hA
  go_wp2_with fail
  refine (sync_at HA2.out nA (by decide)).mono ?_
  rw [sync_one]
  rintro e W3 ⟨rfl, hA⟩
  have HA3 := Lib.hid hA
  clear hA
  go_wp2_with fail
  refine (append_at HA3.out nA ⟨#[121, 122]⟩ (by decide) (by decide)).mono ?_
  rw [app_one _ _ _ (by decide)]
  rintro e W4 ⟨rfl, hA⟩
  have HA4 := Lib.hid hA
  clear hA
  go_wp2_with fail
  refine (crash_at (HA4.out.alloc (.cells #[.int .i64 1] 3)) (some ⟨W4.heap.size, 0, none⟩) [1] 1 (one_int HA4.out 1) (Nat.le_refl _) (by decide) (by simp)).mono ?_
  rw [crash_one]
  rintro e W5 ⟨rfl, hA, -⟩
  rw [if_neg (by decide), show ((⟨#[120]⟩ : ByteArray).size : Int) = 1 from rfl, works_torn] at hA
  have HA5 := Lib.hid hA
  clear hA
  go_wp2_with fail
  refine (read_at HA5.out nA (by decide)).mono ?_
  rw [read_one]
  rintro e W6 ⟨rfl, hA⟩
  have HA6 := Lib.hid hA
  clear hA
  go_wp2
  go_ret
  exact ⟨rfl, HA6.out.bel⟩
end Go.Proofs.Ytjkllbilfcopmaa.Dk
end

section
namespace Go.Proofs.Ytjkllbilfcopmaa.Dk
open Go.RowKit Go.Proofs.YtjkllbilfcopmaaW.PrintWords Go.Proofs.YtjkllbilfcopmaaW.PrintLast Go.Proofs.YtjkllbilfcopmaaW.PrintMore
set_option linter.unusedVariables false
set_option linter.unusedSimpArgs false
theorem wf_i64 {x : Int} (h : (Lit.int .i64 x).wf = true) : -9223372036854775808 ≤ x ∧ x ≤ 9223372036854775807 := by
  simp [Lit.wf, IntKind.min, IntKind.max, IntKind.bits, IntKind.signed] at h
  omega
/-- What is read behind the crash: a beginning, the safe bytes at least. -/
theorem safe_law (a b : ByteArray) (x : Int) : ∃ S : ByteArray, (if tail ⟨a ++ b, a.size⟩ = 0 then (⟨a ++ b, a.size⟩ : Fl) else torn ⟨a ++ b, a.size⟩ x).has = S ∧ a.size ≤ S.size ∧ S.size ≤ a.size + b.size ∧ (a ++ b).extract 0 S.size = S ∧ (x < 0 → S = a) := by
  have hz : (a ++ b).size = a.size + b.size := ByteArray.size_append
  have ht : tail ⟨a ++ b, a.size⟩ = (b.size : Int) := by unfold tail; show ((a ++ b).size : Int) - (a.size : Int) = _; omega
  rw [ht]
  refine ⟨_, rfl, ?_⟩
  by_cases h0 : (b.size : Int) = 0
  · rw [if_pos h0]
    show a.size ≤ (a ++ b).size ∧ (a ++ b).size ≤ a.size + b.size ∧ (a ++ b).extract 0 (a ++ b).size = a ++ b ∧ (x < 0 → a ++ b = a)
    have hb : b = ByteArray.empty := by
      apply ByteArray.ext
      rw [← Array.toList_inj]
      exact List.eq_nil_of_length_eq_zero (by rw [Array.length_toList]; exact (by omega : b.size = 0))
    refine ⟨by omega, by omega, ?_, fun _ => by rw [hb]; simp⟩
    exact ByteArray.extract_zero_size
  · rw [if_neg h0]
    have hl := torn_le (f := ⟨a ++ b, a.size⟩) ⟨by show (0 : Int) ≤ (a.size : Int); omega, by show (a.size : Int) ≤ ((a ++ b).size : Int); omega⟩ x
    obtain ⟨l1, l2, l3⟩ := hl
    simp only at l1 l2
    refine ⟨by omega, by omega, ?_, fun hx => ?_⟩
    · have e : (torn ⟨a ++ b, a.size⟩ x).has = (a ++ b).extract 0 (torn ⟨a ++ b, a.size⟩ x).safe.toNat := rfl
      rw [show (torn ⟨a ++ b, a.size⟩ x).has.size = (torn ⟨a ++ b, a.size⟩ x).safe.toNat by omega, ← e]
    · have e : torn ⟨a ++ b, a.size⟩ x = ⟨(a ++ b).extract 0 a.size, a.size⟩ := by
        unfold torn
        rw [ht, show max 0 x = 0 by omega, Int.zero_emod]
        simp
      rw [e]
      show (a ++ b).extract 0 a.size = a
      simp [ByteArray.extract_append]
set_option maxRecDepth 100000 in
set_option maxHeartbeats 4000000 in
theorem safe_walk (a b : ByteArray) (x : Int) (W : World) (ha : a.size ≤ 140737488351232) (hb : b.size ≤ 140737488351232) (hx : (Lit.int .i64 x).wf = true) : Calls Try.prog 3 #[.string a, .string b, .int .i64 x] W fun e W' => e = .returned (.bool true) ∧ Below W.heap.size W W' := by
  obtain ⟨hx1, hx2⟩ := wf_i64 hx
  clear hx
  go_enter Try.func3, Try.ntmps3
  go_wp2_with fail
  refine (new_at W W (Below.refl _ _)).mono ?_
  rintro e W1 ⟨g, b', rfl, hA⟩
  have HA := Lib.hid hA
  clear hA
  go_wp2_with fail
  refine (works_walk W1).mono ?_
  rintro e W2 ⟨rfl, hB⟩
  have HA2 := Lib.hid (HA.out.below hB)
  clear hB
  by_cases h1 : 262144 < a.size
  · have h1' : (262144 : Int) < (a.size : Int) := by omega
    go_wp2
    go_ret
    exact ⟨rfl, HA2.out.bel⟩
  · by_cases h2 : 262144 < a.size + b.size
    · have h1' : (a.size : Int) ≤ 262144 := by omega
      have h2' : (262144 : Int) - (a.size : Int) < (b.size : Int) := by omega
      go_wp2
      go_ret
      exact ⟨rfl, HA2.out.bel⟩
    · have h1' : (a.size : Int) ≤ 262144 := by omega
      have h2' : (b.size : Int) ≤ (262144 : Int) - (a.size : Int) := by omega
      have H1 := Lib.hid h1
      have H2 := Lib.hid h2
      clear h1 h2
      go_wp2_with fail
      refine (append_at HA2.out nA a (by decide) ha).mono ?_
      rw [app_new a (by have := H1.out; omega)]
      rintro e W3 ⟨rfl, hA⟩
      have HA3 := Lib.hid hA
      clear hA
      go_wp2_with fail
      refine (sync_at HA3.out nA (by decide)).mono ?_
      rw [sync_one]
      rintro e W4 ⟨rfl, hA⟩
      have HA4 := Lib.hid hA
      clear hA
      go_wp2_with fail
      refine (append_at HA4.out nA b (by decide) hb).mono ?_
      rw [app_one _ _ _ (by show a.size + b.size ≤ _; have := H2.out; omega)]
      rintro e W5 ⟨rfl, hA⟩
      have HA5 := Lib.hid hA
      clear hA
      go_wp2_with fail
      refine (crash_at (HA5.out.alloc (.cells #[.int .i64 x] 3)) (some ⟨W5.heap.size, 0, none⟩) [x] 1 (one_int HA5.out x) (Nat.le_refl _) (by decide) (by simp; omega)).mono ?_
      rw [crash_one]
      rintro e W6 ⟨rfl, hA, -⟩
      have HA6 := Lib.hid hA
      clear hA
      go_wp2_with fail
      refine (read_at HA6.out nA (by decide)).mono ?_
      rw [read_one]
      obtain ⟨S, hS, s1, s2, s3, s4⟩ := safe_law a b x
      rw [hS]
      rintro e W7 ⟨rfl, hA⟩
      have HA7 := Lib.hid hA
      have hz : (a ++ b).size = a.size + b.size := ByteArray.size_append
      have s1' : (a.size : Int) ≤ (S.size : Int) := by omega
      have s2' : (S.size : Int) ≤ (a.size : Int) + (b.size : Int) := by omega
      clear hA hS H1 H2 hz
      have hcat : ¬ 9223372036854775807 < a.size + b.size := by omega
      by_cases hx : x < 0
      · obtain rfl := s4 hx
        clear s4
        go_wp2
        go_ret
        exact ⟨rfl, HA7.out.bel⟩
      · have hx' : 0 ≤ x := by omega
        clear s4
        go_wp2
        go_ret
        exact ⟨rfl, HA7.out.bel⟩
end Go.Proofs.Ytjkllbilfcopmaa.Dk
end

section
namespace Go.Proofs.Ytjkllbilfcopmaa.Dk
open Go.RowKit Go.Proofs.YtjkllbilfcopmaaW.PrintWords Go.Proofs.YtjkllbilfcopmaaW.PrintLast Go.Proofs.YtjkllbilfcopmaaW.PrintMore
set_option linter.unusedVariables false
set_option linter.unusedSimpArgs false
/-- A number from 0 to n - 1. -/
def amongN (x n : Int) : Int := x % n
set_option maxHeartbeats 1000000 in
theorem among_walk (x n : Int) (W : World) (hx : (Lit.int .i64 x).wf = true) (hn : 1 ≤ n) (hn2 : n ≤ 1000) : Calls Try.prog 15 #[.int .i64 x, .int .i64 n] W fun e W' => e = .returned (.int .i64 (x % n)) ∧ W = W' := by
  obtain ⟨hx1, hx2⟩ := wf_i64 hx
  clear hx
  have hn0 : ¬ n = 0 := by omega
  have h1 := Int.tmod_lt_of_pos x (show 0 < n by omega)
  have h2 : -n < x.tmod n := by
    have := Int.tmod_lt_of_pos (-x) (show 0 < n by omega)
    rw [Int.neg_tmod] at this
    omega
  have h3 : (x.tmod n + n) % n = x % n := by
    rw [Int.add_emod_right]
    rcases Int.le_total 0 x with h | h
    · rw [Int.tmod_eq_emod_of_nonneg h, Int.emod_emod_of_dvd _ (Int.dvd_refl n)]
    · have e : x.tmod n = -((-x) % n) := by
        rw [← Int.tmod_eq_emod_of_nonneg (show 0 ≤ -x by omega), Int.neg_tmod]; omega
      rw [e]
      have := Int.emod_add_mul_ediv (-x) n
      have h5 : x = -((-x) % n) + n * (-((-x) / n)) := by
        have : -x = (-x) % n + n * ((-x) / n) := this.symm
        have h6 : n * (-((-x) / n)) = -(n * ((-x) / n)) := by rw [Int.mul_neg]
        omega
      conv => rhs; rw [h5]
      rw [Int.add_mul_emod_self_left]
  have H3 := Lib.hid h3
  clear h3
  go_enter Try.func15, Try.ntmps15
  go_wp2
  go_ret
  exact ⟨congrArg (fun z => Ending.returned (.int .i64 z)) H3.out, rfl⟩
set_option maxRecDepth 100000 in
set_option maxHeartbeats 4000000 in
theorem swap_walk (was will : ByteArray) (fz : Int) (A : Option Addr) (dr : List Int) (c : Nat) (W : World) (ha : was.size ≤ 140737488351232) (hb : will.size ≤ 140737488351232) (hx : (Lit.int .i64 fz).wf = true)
    (hA : ∀ S : Nat → Prop, (∀ k, S k → W.heap.size ≤ k) → IntsAt S W A dr) (hc : dr.length ≤ c) (hcm : c ≤ maxLen) (hdr : ∀ x ∈ dr, -9223372036854775808 ≤ x ∧ x ≤ 9223372036854775807) :
    Calls Try.prog 6 #[.string was, .string will, .agg #[.int .i64 fz, .slice A dr.length c]] W fun e W' => e = .returned (.bool true) ∧ Below W.heap.size W W' := by
  have HIA := Lib.hid hA
  have HDR := Lib.hid hdr
  have HX := Lib.hid hx
  clear hA hdr hx
  have hcm' : c ≤ 9223372036854775807 := by unfold maxLen at hcm; omega
  have HCM := Lib.hid hcm
  have HC := Lib.hid hc
  clear hcm
  go_enter Try.func6, Try.ntmps6
  have HBX := Lib.hid (below_alloc (Below.refl W.heap.size W) (.cells #[.int .i64 fz, .slice A dr.length c] 44))
  go_wp2_with fail
  refine (new_at (W.alloc (.cells #[.int .i64 fz, .slice A dr.length c] 44)) _ (Below.refl _ _)).mono ?_
  rintro e W1 ⟨g, b', rfl, hA⟩
  have HA := Lib.hid hA
  clear hA
  go_wp2_with fail
  refine (works_walk W1).mono ?_
  rintro e W2 ⟨rfl, hB⟩
  have HA2 := Lib.hid (HA.out.below hB)
  clear hB
  have hx0 := HA2.out.bel.block _ (show W.heap.size < (W.alloc (.cells #[.int .i64 fz, .slice A dr.length c] 44)).heap.size by simp)
  rw [heap_alloc_new] at hx0
  have x0 := (blk_cell hx0 0).trans (show _ = some (Value.int .i64 fz) from rfl)
  have x1 := (blk_cell hx0 1).trans (show _ = some (Value.slice A dr.length c) from rfl)
  clear hx0
  by_cases h1 : 262144 < was.size
  · have h1' : (262144 : Int) < (was.size : Int) := by omega
    go_wp2
    go_ret
    exact ⟨rfl, below_step HBX.out HA2.out.bel⟩
  · have h1' : (was.size : Int) ≤ 262144 := by omega
    by_cases h2 : 262144 < will.size
    · have h2' : (262144 : Int) < (will.size : Int) := by omega
      go_wp2
      go_ret
      exact ⟨rfl, below_step HBX.out HA2.out.bel⟩
    · have h2' : (will.size : Int) ≤ 262144 := by omega
      by_cases h3 : 4096 < dr.length
      · have h3' : (4096 : Int) < (dr.length : Int) := by omega
        go_wp2
        go_ret
        exact ⟨rfl, below_step HBX.out HA2.out.bel⟩
      · have h3' : (dr.length : Int) ≤ 4096 := by omega
        have H1 := Lib.hid (And.intro h1 (And.intro h2 h3))
        have HCR : Hid (∀ d : DS, (crash d dr).2 = 0) := Lib.hid fun d => (crash_two d dr).elim (fun h => h.1) (fun h => absurd h.2 h3)
        clear h1 h2 h3
        go_wp2_with fail
        refine (append_at HA2.out nA was (by decide) ha).mono ?_
        rw [app_new was (by have := H1.out.1; omega)]
        rintro e W3 ⟨rfl, hA⟩
        have HA3 := Lib.hid hA
        clear hA
        go_wp2_with fail
        refine (sync_at HA3.out nA (by decide)).mono ?_
        rw [sync_one]
        rintro e W4 ⟨rfl, hA⟩
        have HA4 := Lib.hid hA
        clear hA x0 x1
        have hx0 := HA4.out.bel.block _ (show W.heap.size < (W.alloc (.cells #[.int .i64 fz, .slice A dr.length c] 44)).heap.size by simp)
        rw [heap_alloc_new] at hx0
        have x0 := (blk_cell hx0 0).trans (show _ = some (Value.int .i64 fz) from rfl)
        have x1 := (blk_cell hx0 1).trans (show _ = some (Value.slice A dr.length c) from rfl)
        clear hx0
        go_wp2_with fail
        refine (among_walk fz 5 W4 HX.out (by decide) (by decide)).mono ?_
        rintro e w' ⟨rfl, rfl⟩
        obtain ⟨k, hk⟩ : ∃ k, fz % 5 = k := ⟨_, rfl⟩
        have hk0 : 0 ≤ k := by omega
        have hk5 : k < 5 := by omega
        rw [hk]
        clear hk
        go_wp2_with fail
        refine (fuse_at HA4.out k (by omega)).mono ?_
        rw [show fuse (One ⟨was, was.size⟩ false false 0) k = (⟨[(kA, safeF was)], true, false, k⟩, 0) from fuse_pos _ _ _ _ _ hk0]
        rintro e W5 ⟨rfl, hA⟩
        have HA5 := Lib.hid hA
        clear hA x0 x1
        have hx0 := HA5.out.bel.block _ (show W.heap.size < (W.alloc (.cells #[.int .i64 fz, .slice A dr.length c] 44)).heap.size by simp)
        rw [heap_alloc_new] at hx0
        have x0 := (blk_cell hx0 0).trans (show _ = some (Value.int .i64 fz) from rfl)
        have x1 := (blk_cell hx0 1).trans (show _ = some (Value.slice A dr.length c) from rfl)
        clear hx0
        go_wp2_with fail
        refine (append_at HA5.out nB will (by decide) hb).mono ?_
        rw [swap_append was will k (by have := H1.out.2.1; omega) hk0]
        by_cases q0 : k = 0
        · rw [if_pos q0]
          rintro e W6 ⟨rfl, hA⟩
          have HA6 := Lib.hid hA
          clear hA x0 x1 q0
          have hx0 := HA6.out.bel.block _ (show W.heap.size < (W.alloc (.cells #[.int .i64 fz, .slice A dr.length c] 44)).heap.size by simp)
          rw [heap_alloc_new] at hx0
          have x0 := (blk_cell hx0 0).trans (show _ = some (Value.int .i64 fz) from rfl)
          have x1 := (blk_cell hx0 1).trans (show _ = some (Value.slice A dr.length c) from rfl)
          clear hx0
          go_wp2_with fail
          refine (crash_at HA6.out A dr c ((HIA.out _ (fun k hk => Nat.le_trans (by simp) (HA6.out.two k hk))).fr (Fr.of_below (below_step HBX.out HA6.out.bel))) HC.out HCM.out HDR.out).mono ?_
          rw [HCR.out]
          rintro e W7 ⟨rfl, hA7, -⟩
          have HA7 := Lib.hid hA7
          clear hA7 x0 x1
          go_wp2_with fail
          refine (read_at HA7.out nA (by decide)).mono ?_
          rw [read_crash (f := safeF was) rfl (tail_safe _)]
          rintro e W8 ⟨rfl, hA8⟩
          have HA8 := Lib.hid hA8
          clear hA8
          simp only [safeF]
          go_wp2
          go_ret
          exact ⟨rfl, below_step HBX.out HA8.out.bel⟩
        · rw [if_neg q0]
          rintro e W6 ⟨rfl, hA⟩
          have HA6 := Lib.hid hA
          clear hA x0 x1
          go_wp2_with fail
          refine (sync_at HA6.out nB (by decide)).mono ?_
          rw [swap_sync was will (k - 1)]
          by_cases q1 : k - 1 = 0
          · rw [if_pos q1]
            rintro e W6b ⟨rfl, hA⟩
            have HA6b := Lib.hid hA
            clear hA q0 q1
            have hx0 := HA6b.out.bel.block _ (show W.heap.size < (W.alloc (.cells #[.int .i64 fz, .slice A dr.length c] 44)).heap.size by simp)
            rw [heap_alloc_new] at hx0
            have x0 := (blk_cell hx0 0).trans (show _ = some (Value.int .i64 fz) from rfl)
            have x1 := (blk_cell hx0 1).trans (show _ = some (Value.slice A dr.length c) from rfl)
            clear hx0
            go_wp2_with fail
            refine (crash_at HA6b.out A dr c ((HIA.out _ (fun k hk => Nat.le_trans (by simp) (HA6b.out.two k hk))).fr (Fr.of_below (below_step HBX.out HA6b.out.bel))) HC.out HCM.out HDR.out).mono ?_
            rw [HCR.out]
            rintro e W7 ⟨rfl, hA7, -⟩
            have HA7 := Lib.hid hA7
            clear hA7 x0 x1
            go_wp2_with fail
            refine (read_at HA7.out nA (by decide)).mono ?_
            rw [read_crash (f := safeF was) rfl (tail_safe _)]
            rintro e W8 ⟨rfl, hA8⟩
            have HA8 := Lib.hid hA8
            clear hA8
            simp only [safeF]
            go_wp2
            go_ret
            exact ⟨rfl, below_step HBX.out HA8.out.bel⟩
          · rw [if_neg q1]
            rintro e W6b ⟨rfl, hA⟩
            have HA6b := Lib.hid hA
            clear hA
            go_wp2_with fail
            refine (rename_at HA6b.out nB nA (by decide) (by decide)).mono ?_
            rw [swap_rename was will (k - 1 - 1)]
            by_cases q2 : k - 1 - 1 = 0
            · rw [if_pos q2]
              rintro e W6c ⟨rfl, hA⟩
              have HA6c := Lib.hid hA
              clear hA q0 q1 q2
              have hx0 := HA6c.out.bel.block _ (show W.heap.size < (W.alloc (.cells #[.int .i64 fz, .slice A dr.length c] 44)).heap.size by simp)
              rw [heap_alloc_new] at hx0
              have x0 := (blk_cell hx0 0).trans (show _ = some (Value.int .i64 fz) from rfl)
              have x1 := (blk_cell hx0 1).trans (show _ = some (Value.slice A dr.length c) from rfl)
              clear hx0
              go_wp2_with fail
              refine (crash_at HA6c.out A dr c ((HIA.out _ (fun k hk => Nat.le_trans (by simp) (HA6c.out.two k hk))).fr (Fr.of_below (below_step HBX.out HA6c.out.bel))) HC.out HCM.out HDR.out).mono ?_
              rw [HCR.out]
              rintro e W7 ⟨rfl, hA7, -⟩
              have HA7 := Lib.hid hA7
              clear hA7 x0 x1
              go_wp2_with fail
              refine (read_at HA7.out nA (by decide)).mono ?_
              rw [read_crash (f := safeF was) rfl (tail_safe _)]
              rintro e W8 ⟨rfl, hA8⟩
              have HA8 := Lib.hid hA8
              clear hA8
              simp only [safeF]
              go_wp2
              go_ret
              exact ⟨rfl, below_step HBX.out HA8.out.bel⟩
            · rw [if_neg q2]
              rintro e W6c ⟨rfl, hA⟩
              have HA6c := Lib.hid hA
              clear hA q0 q1 q2
              have hx0 := HA6c.out.bel.block _ (show W.heap.size < (W.alloc (.cells #[.int .i64 fz, .slice A dr.length c] 44)).heap.size by simp)
              rw [heap_alloc_new] at hx0
              have x0 := (blk_cell hx0 0).trans (show _ = some (Value.int .i64 fz) from rfl)
              have x1 := (blk_cell hx0 1).trans (show _ = some (Value.slice A dr.length c) from rfl)
              clear hx0
              go_wp2_with fail
              refine (crash_at HA6c.out A dr c ((HIA.out _ (fun k hk => Nat.le_trans (by simp) (HA6c.out.two k hk))).fr (Fr.of_below (below_step HBX.out HA6c.out.bel))) HC.out HCM.out HDR.out).mono ?_
              rw [HCR.out]
              rintro e W7 ⟨rfl, hA7, -⟩
              have HA7 := Lib.hid hA7
              clear hA7 x0 x1
              go_wp2_with fail
              refine (read_at HA7.out nA (by decide)).mono ?_
              rw [read_crash (f := safeF will) rfl (tail_safe _)]
              rintro e W8 ⟨rfl, hA8⟩
              have HA8 := Lib.hid hA8
              clear hA8
              simp only [safeF]
              go_wp2
              go_ret
              exact ⟨rfl, below_step HBX.out HA8.out.bel⟩
end Go.Proofs.Ytjkllbilfcopmaa.Dk
end

section
namespace Go.Proofs.Ytjkllbilfcopmaa.Dk
open Go.RowKit Go.Proofs.YtjkllbilfcopmaaW.PrintWords Go.Proofs.YtjkllbilfcopmaaW.PrintLast Go.Proofs.YtjkllbilfcopmaaW.PrintMore
set_option linter.unusedVariables false
set_option linter.unusedSimpArgs false
/-- A slice of numbers that came in. -/
theorem row_ints {W : World} {a : Option Addr} {len cap : Nat} {zs : List Int} (h : (a = none ∧ len = 0 ∧ cap = 0 ∧ zs = []) ∨
    ∃ x, a = some x ∧ len ≤ cap ∧ cap ≤ maxLen ∧ zs.length = cap ∧ (∀ i, i < zs.length → W.cell? (x.add i) = some (.int .i64 (zs.getD i 0))) ∧ ∀ n ∈ zs, (Lit.int .i64 n).wf = true) :
    (zs.take len).length = len ∧ len ≤ cap ∧ cap ≤ maxLen ∧ (∀ S : Nat → Prop, (∀ k, S k → W.heap.size ≤ k) → IntsAt S W a (zs.take len)) ∧ ∀ x ∈ zs.take len, -9223372036854775808 ≤ x ∧ x ≤ 9223372036854775807 := by
  rcases h with ⟨rfl, rfl, rfl, rfl⟩ | ⟨x, rfl, hl, hm, hz, hc, hw⟩
  · exact ⟨rfl, Nat.le_refl _, Nat.zero_le _, fun S _ => none_ints S W, by simp⟩
  · have hlen : (zs.take len).length = len := by rw [List.length_take]; omega
    refine ⟨hlen, hl, hm, fun S hS => ⟨by omega, fun hp => ⟨x, rfl, fun hk => ?_, ?_, fun j hj => ?_⟩⟩, fun n hn => wf_i64 (hw n (List.mem_of_mem_take hn))⟩
    · have h0 := hc 0 (by omega)
      have := World.block_lt_of_cell? W _ h0
      rw [add_block'] at this
      have := hS _ hk
      omega
    · have h0 := hc 0 (by omega)
      have := World.block_lt_of_cell? W _ h0
      rw [add_block'] at this
      exact this
    · rw [hc j (by omega)]
      congr 2
      simp only [List.getD_eq_getElem?_getD]
      rw [List.getElem?_take, if_pos (by omega)]
theorem swap_row (was will : ByteArray) (fz : Int) (a : Option Addr) (len cap : Nat) (zs : List Int) (W : World) (ha : was.size ≤ 140737488351232) (hb : will.size ≤ 140737488351232) (hx : (Lit.int .i64 fz).wf = true)
    (h : (a = none ∧ len = 0 ∧ cap = 0 ∧ zs = []) ∨ ∃ x, a = some x ∧ len ≤ cap ∧ cap ≤ maxLen ∧ zs.length = cap ∧ (∀ i, i < zs.length → W.cell? (x.add i) = some (.int .i64 (zs.getD i 0))) ∧ ∀ n ∈ zs, (Lit.int .i64 n).wf = true) :
    Calls Try.prog 6 #[.string was, .string will, .agg #[.int .i64 fz, .slice a len cap]] W fun e W' => e = .returned (.bool true) ∧ Below W.heap.size W W' := by
  obtain ⟨h1, h2, h3, h4, h5⟩ := row_ints h
  have := swap_walk was will fz a (zs.take len) cap W ha hb hx h4 (by omega) h3 h5
  rw [h1] at this
  exact this
end Go.Proofs.Ytjkllbilfcopmaa.Dk
end

section
namespace Go.Proofs.Ytjkllbilfcopmaa.Dk
open Go.RowKit Go.Proofs.YtjkllbilfcopmaaW.PrintWords Go.Proofs.YtjkllbilfcopmaaW.PrintLast Go.Proofs.YtjkllbilfcopmaaW.PrintMore
set_option linter.unusedVariables false
set_option linter.unusedSimpArgs false
theorem fu_start (n : Nat) : fuse new (n : Int) = (Fu 0 n, 0) := by
  unfold new
  rw [fuse_pos _ _ _ _ _ (by omega)]
  unfold Fu
  rw [show (n : Int) - (0 : Nat) = (n : Int) by omega]
  rfl
set_option maxRecDepth 100000 in
set_option maxHeartbeats 8000000 in
theorem fuses_walk (n0 bad0 : Int) (W : World) (hn : (Lit.int .i64 n0).wf = true) (hb : (Lit.int .i64 bad0).wf = true) : Calls Try.prog 4 #[.int .i64 n0, .int .i64 bad0] W fun e W' => e = .returned (.bool true) ∧ Below W.heap.size W W' := by
  have HN := Lib.hid hn
  have HB := Lib.hid hb
  clear hn hb
  go_enter Try.func4, Try.ntmps4
  go_wp2_with fail
  refine (new_at W W (Below.refl _ _)).mono ?_
  rintro e W1 ⟨g, b', rfl, hA⟩
  have HA := Lib.hid hA
  clear hA
  go_wp2_with fail
  refine (works_walk W1).mono ?_
  rintro e W2 ⟨rfl, hB⟩
  have HA2 := Lib.hid (HA.out.below hB)
  clear hB
  go_wp2_with fail
  refine (among_walk n0 50 _ HN.out (by decide) (by decide)).mono ?_
  rintro e w' ⟨rfl, rfl⟩
  go_wp2_with fail
  refine (among_walk bad0 3 _ HB.out (by decide) (by decide)).mono ?_
  rintro e w' ⟨rfl, rfl⟩
  obtain ⟨n, hn⟩ : ∃ n : Nat, n0 % 50 = (n : Int) := ⟨(n0 % 50).toNat, by omega⟩
  obtain ⟨bad, hbad⟩ : ∃ m : Nat, bad0 % 3 = (m : Int) := ⟨(bad0 % 3).toNat, by omega⟩
  have hn50 : n < 50 := by omega
  have hb3 : bad < 3 := by omega
  rw [hn, hbad]
  clear hn hbad
  go_wp2_with fail
  refine (fuse_at HA2.out (n : Int) (by omega)).mono ?_
  rw [show fuse new (n : Int) = (Fu 0 n, 0) from fu_start n]
  rintro e W3 ⟨rfl, hA⟩
  have HA3 := Lib.hid hA
  clear hA
  go_wp2_with fail
  go_loopg [24] (n + 1) (fun kq v24 w' => ∃ i : Nat, v24 = .int .i64 (i : Int) ∧ Hid (i + kq = n + 1 ∧ i ≤ n) ∧ Hid (At W w' g b' (Fu i n)))
  case atStart => exact ⟨0, rfl, Lib.hid ⟨by omega, Nat.zero_le _⟩, HA3⟩
  case round =>
    clear HA3
    obtain ⟨i, rfl, HI, HD⟩ := hrel
    obtain ⟨i1, i2⟩ := HI.out
    by_cases hi : i < n
    · obtain ⟨kq1, rfl⟩ : ∃ kq1, gk = kq1 + 1 := ⟨gk - 1, by omega⟩
      have hii : (i : Int) < (n : Int) := by omega
      go_wp2_with fail
      obtain ⟨wo, hwo⟩ : ∃ wo : World, wo = wr := ⟨_, rfl⟩
      subst hwo
      go_loopg [27] (bad + 1) (fun kp v27 w' => ∃ j : Nat, v27 = .int .i64 (j : Int) ∧ Hid (j + kp = bad + 1 ∧ j ≤ bad) ∧ Hid (At W w' g b' (Fu i n)))
      case atStart => exact ⟨0, rfl, Lib.hid ⟨by omega, Nat.zero_le _⟩, HD⟩
      case round =>
        clear HD
        obtain ⟨j, rfl, HJ, HD⟩ := hrel
        obtain ⟨j1, j2⟩ := HJ.out
        by_cases hj : j < bad
        · obtain ⟨kp1, rfl⟩ : ∃ kp1, gk = kp1 + 1 := ⟨gk - 1, by omega⟩
          have hjj : (j : Int) < (bad : Int) := by omega
          go_wp2_with fail
          refine (sync_at HD.out nNone (by decide)).mono ?_
          rw [fu_none]
          rintro e W4 ⟨rfl, hA⟩
          have HD4 := Lib.hid hA
          clear hA
          go_wp2_with fail
          refine (append_at HD4.out ByteArray.empty nX (by decide) (by decide)).mono ?_
          rw [append_bad]
          rintro e W5 ⟨rfl, hA⟩
          have HD5 := Lib.hid hA
          clear hA
          go_wp2_with fail
          go_roundg kp1
          case measure => omega
          case rel => exact ⟨j + 1, by go_num, Lib.hid ⟨by omega, by omega⟩, HD5⟩
        · have hjj : ¬ (j : Int) < (bad : Int) := by omega
          clear j1 j2 hj
          go_wp2_with fail
          refine (append_at HD.out nA nX (by decide) (by decide)).mono ?_
          rw [fu_append i n hi (by omega)]
          rintro e W6 ⟨rfl, hA⟩
          have HD6 := Lib.hid hA
          clear hA
          go_wp2_with fail
          go_roundg kq1
          case measure => omega
          case rel => exact ⟨i + 1, by go_num, Lib.hid ⟨by omega, by omega⟩, HD6⟩
    · have hie : i = n := by omega
      subst hie
      clear i1 i2 hi
      go_wp2_with fail
      have HST := Lib.hid (show ∃ d, At W wr g b' d ∧ (d = Fu i i ∨ d = FuD i) ∧ (0 < 0 → d = FuD i) from ⟨_, HD.out, .inl rfl, fun h => absurd h (by omega)⟩)
      clear HD
      go_loopg [42] 4 (fun kq v42 w' => ∃ r : Nat, v42 = .int .i64 (r : Int) ∧ Hid (r + kq = 4 ∧ r ≤ 3) ∧ Hid (∃ d, At W w' g b' d ∧ (d = Fu i i ∨ d = FuD i) ∧ (0 < r → d = FuD i)))
      case atStart => exact ⟨0, rfl, Lib.hid ⟨by omega, by omega⟩, HST⟩
      case round =>
        clear HST
        obtain ⟨r, rfl, HR, HD⟩ := hrel
        obtain ⟨d, hA0, hd, hd2⟩ := HD.out
        obtain ⟨r1, r2⟩ := HR.out
        have HA0 := Lib.hid hA0
        clear hA0 HD
        by_cases hr : r < 3
        · obtain ⟨kq1, rfl⟩ : ∃ kq1, gk = kq1 + 1 := ⟨gk - 1, by omega⟩
          have hrr : (r : Int) < 3 := by omega
          have hap : append d nA nX = (FuD i, 11) := by
            rcases hd with rfl | rfl
            · exact fu_out i (by omega)
            · exact fu_down i (by omega)
          have HAP := Lib.hid hap
          clear hap hd hd2
          go_wp2_with fail
          refine (append_at HA0.out nA nX (by decide) (by decide)).mono ?_
          rw [HAP.out]
          rintro e W4 ⟨rfl, hA⟩
          have HA4 := Lib.hid hA
          clear hA
          by_cases hi0 : 0 < i
          · have hi1 : (0 : Int) < (i : Int) := by omega
            have HS := Lib.hid (fu_sync i hi0)
            clear hi0
            go_wp2_with fail
            refine (sync_at HA4.out nA (by decide)).mono ?_
            rw [HS.out]
            rintro e W5 ⟨rfl, hA⟩
            have HA5 := Lib.hid (show ∃ d, At W W5 g b' d ∧ (d = Fu i i ∨ d = FuD i) ∧ (0 < r + 1 → d = FuD i) from ⟨_, hA, .inr rfl, fun _ => rfl⟩)
            clear hA
            go_wp2_with fail
            go_roundg kq1
            case measure => omega
            case rel => exact ⟨r + 1, by go_num, Lib.hid ⟨by omega, by omega⟩, HA5⟩
          · have hi1 : i = 0 := by omega
            subst hi1
            clear hi0
            have HA5 := Lib.hid (show ∃ d, At W W4 g b' d ∧ (d = Fu 0 0 ∨ d = FuD 0) ∧ (0 < r + 1 → d = FuD 0) from ⟨_, HA4.out, .inr rfl, fun _ => rfl⟩)
            go_wp2_with fail
            go_roundg kq1
            case measure => omega
            case rel => exact ⟨r + 1, by go_num, Lib.hid ⟨by omega, by omega⟩, HA5⟩
        · have hrr : ¬ (r : Int) < 3 := by omega
          obtain rfl := hd2 (by omega)
          clear hd r1 r2 hr hd2
          obtain ⟨m, hm1, hm2, hm3⟩ := fu_crash i
          have HM := Lib.hid hm1
          have HM2 := Lib.hid (fu_append_b hm2 hm3)
          have HM3 := Lib.hid (fu_sync_b m ⟨nX, 0⟩)
          clear hm1 hm2 hm3
          go_wp2_with fail
          refine (read_at HA0.out nA (by decide)).mono ?_
          by_cases hi0 : 0 < i
          · have hi1 : (0 : Int) < (i : Int) := by omega
            rw [fu_read i hi0]
            rintro e W4 ⟨rfl, hA⟩
            have HA4 := Lib.hid hA
            have hsz : ((xs i).size : Int) = (i : Int) := by rw [xs_size]
            have hszb : (((xs i).size : Int) != (i : Int)) = false := by rw [hsz]; simp
            clear hA hi0 hsz
            go_wp2_with fail
            refine (crash_at HA4.out none [] 0 (none_ints _ _) (Nat.le_refl _) (by decide) (by simp)).mono ?_
            rw [HM.out]
            rintro e W5 ⟨rfl, hA, -⟩
            have HA5 := Lib.hid hA
            clear hA
            go_wp2_with fail
            refine (append_at HA5.out nB nX (by decide) (by decide)).mono ?_
            rw [HM2.out]
            rintro e W6 ⟨rfl, hA⟩
            have HA6 := Lib.hid hA
            clear hA
            go_wp2_with fail
            refine (sync_at HA6.out nB (by decide)).mono ?_
            rw [HM3.out]
            rintro e W7 ⟨rfl, hA⟩
            have HA7 := Lib.hid hA
            clear hA
            go_wp2
            go_ret
            exact ⟨rfl, HA7.out.bel⟩
          · have hi1 : i = 0 := by omega
            subst hi1
            clear hi0
            rintro e W4 ⟨rfl, hA⟩
            have HA4 := Lib.hid hA
            clear hA
            go_wp2_with fail
            refine (crash_at HA4.out none [] 0 (none_ints _ _) (Nat.le_refl _) (by decide) (by simp)).mono ?_
            rw [HM.out]
            rintro e W5 ⟨rfl, hA, -⟩
            have HA5 := Lib.hid hA
            clear hA
            go_wp2_with fail
            refine (append_at HA5.out nB nX (by decide) (by decide)).mono ?_
            rw [HM2.out]
            rintro e W6 ⟨rfl, hA⟩
            have HA6 := Lib.hid hA
            clear hA
            go_wp2_with fail
            refine (sync_at HA6.out nB (by decide)).mono ?_
            rw [HM3.out]
            rintro e W7 ⟨rfl, hA⟩
            have HA7 := Lib.hid hA
            clear hA
            go_wp2
            go_ret
            exact ⟨rfl, HA7.out.bel⟩
end Go.Proofs.Ytjkllbilfcopmaa.Dk
end

section
namespace Go.Proofs.Ytjkllbilfcopmaa.Dk
open Go.RowKit Go.Proofs.YtjkllbilfcopmaaW.PrintWords Go.Proofs.YtjkllbilfcopmaaW.PrintLast Go.Proofs.YtjkllbilfcopmaaW.PrintMore
set_option linter.unusedVariables false
set_option linter.unusedSimpArgs false
set_option maxRecDepth 100000 in
set_option maxHeartbeats 4000000 in
/-- Two slices of the same texts are the same. -/
theorem same_walk (W : World) (S T : Nat → Prop) (A B : Option Addr) (l : List ByteArray) (c c' : Nat) (hA : StrsAt S W A l) (hB : StrsAt T W B l) :
    Calls Try.prog 19 #[.slice A l.length c, .slice B l.length c'] W fun e W' => e = .returned (.bool true) ∧ Below W.heap.size W W' := by
  have HA := Lib.hid hA
  have HB := Lib.hid hB
  have hlm : l.length ≤ 9223372036854775807 := by have := hA.1; unfold maxLen at this; omega
  clear hA hB
  go_enter Try.func19, Try.ntmps19
  go_wp2
  go_loopg [5] (l.length + 1) (fun kq v5 w' => ∃ j : Nat, v5 = .int .i64 (j : Int) ∧ Hid (j + kq = l.length + 1 ∧ j ≤ l.length) ∧ Hid (Below W.heap.size W w'))
  case atStart => exact ⟨0, rfl, Lib.hid ⟨by omega, Nat.zero_le _⟩, Lib.hid (Below.refl _ _)⟩
  case round =>
    obtain ⟨j, rfl, HJ, HBl⟩ := hrel
    obtain ⟨j1, j2⟩ := HJ.out
    by_cases hj : j < l.length
    · obtain ⟨kq1, rfl⟩ : ∃ kq1, gk = kq1 + 1 := ⟨gk - 1, by omega⟩
      have hjj : (j : Int) < (l.length : Int) := by omega
      obtain ⟨ad, rfl, hc1⟩ := (HA.out.fr (Fr.of_below HBl.out)).at_ j hj
      obtain ⟨ad2, rfl, hc2⟩ := (HB.out.fr (Fr.of_below HBl.out)).at_ j hj
      go_wp2_with fail
      go_quiet (fail)
      go_wp2_with fail
      go_roundg kq1
      case measure => omega
      case rel => exact ⟨j + 1, by go_num, Lib.hid ⟨by omega, by omega⟩, Lib.hid (pw_below_drewN HBl.out _)⟩
    · have hjj : ¬ (j : Int) < (l.length : Int) := by omega
      go_wp2
      go_ret
      exact ⟨rfl, HBl.out⟩
theorem own_b {w w1 : World} {base : Nat} {e : TypeId} {size n : Nat} {v : Value} {xs : List Value} (h : w.ownsRow base e size v n xs) (hb : Below w.heap.size w w1) : w1.ownsRow base e size v n xs := Go.Proofs.YtjkllbilfcopmaaW.PrintWords.own_move h fun k hk => hb.block k (h.lt k hk).2
/-- What each file has, with its name. -/
def allL (d : DS) : List ByteArray := (nameL d).flatMap fun s => [s, (read d s).1]
theorem info9 : (Try.prog.info? 9).map (fun i => (i.zero, i.size, i.bytes)) = some (some (.string ByteArray.empty), 1, 16) := by kernel_rfl
theorem flat_take {α β : Type} (f : α → List β) (l : List α) (j : Nat) (h : j < l.length) : (l.take (j + 1)).flatMap f = (l.take j).flatMap f ++ f (l[j]) := by
  rw [List.take_succ_eq_append_getElem h, List.flatMap_append]
  simp
theorem flat_len (d : DS) (l : List ByteArray) : (l.flatMap fun s => [s, (read d s).1]).length = 2 * l.length := by
  induction l with
  | nil => rfl
  | cons x l ih => rw [List.flatMap_cons, List.length_append, ih]; simp; omega
set_option maxRecDepth 100000 in
set_option maxHeartbeats 8000000 in
theorem all_walk (W : World) (g b : Nat) (d : DS) (h : IsDk W g b d) : Calls Try.prog 18 #[.pointer (some ⟨g, 0, none⟩)] W fun e W' => ∃ v, e = .returned v ∧ W'.ownsRow W.heap.size 9 1 v (allL d).length ((allL d).map Value.string) ∧ Below W.heap.size W W' := by
  have HI := Lib.hid h
  clear h
  go_enter Try.func18, Try.ntmps18
  go_wp2_with fail
  refine (names_walk W g b d HI.out).mono ?_
  rintro e W2 ⟨v, rfl, hrow, hB2⟩
  obtain ⟨A2, k2, rfl, hN, hk2, hkm⟩ := own_row (S := fun _ => False) hrow (fun k hk e => e)
  have hLl : (nameL d).length ≤ 64 := by unfold nameL; rw [List.length_map, FM.names_len]; exact HI.out.fine.many
  have hsz : ∀ s ∈ nameL d, s.size ≤ 32 := fun s hs => by
    unfold nameL at hs
    obtain ⟨k, hk, rfl⟩ := List.mem_map.1 hs
    obtain ⟨v, hv⟩ := FM.mem_names.1 hk
    have := (HI.out.fine.fls _ hv).2.2.2
    show k.toArray.size ≤ 32
    simpa using this
  obtain ⟨L, hL⟩ : ∃ L, nameL d = L := ⟨_, rfl⟩
  have hAll : allL d = L.flatMap fun s => [s, (read d s).1] := by unfold allL; rw [hL]
  rw [hL] at hN hLl hsz ⊢
  have HAll := Lib.hid hAll
  have HSZ := Lib.hid hsz
  have HN := Lib.hid hN
  have HB2 := Lib.hid hB2
  have hown0 : W2.ownsRow W2.heap.size 9 1 (.slice none 0 0) ((L.take 0).flatMap fun s => [s, (read d s).1]).length (((L.take 0).flatMap fun s => [s, (read d s).1]).map Value.string) := ⟨rfl, .inl ⟨rfl, rfl⟩⟩
  have HO0 := Lib.hid hown0
  clear hrow hN hL hB2 hkm hAll hsz hown0
  obtain ⟨i0, hi, hzz⟩ := Option.map_eq_some_iff.1 info9
  simp only [Prod.mk.injEq] at hzz
  have HZZ := Lib.hid (And.intro hi hzz)
  clear hi hzz
  go_wp2_with fail
  go_loopg [3, 11] (L.length + 1) (fun kq v3 v11 w' => ∃ j : Nat, v11 = .int .i64 (j : Int) ∧ Hid (j + kq = L.length + 1 ∧ j ≤ L.length) ∧ Hid (Below W2.heap.size W2 w') ∧ Hid (w'.ownsRow W2.heap.size 9 1 v3 ((L.take j).flatMap fun s => [s, (read d s).1]).length (((L.take j).flatMap fun s => [s, (read d s).1]).map Value.string)))
  case atStart => exact ⟨0, rfl, Lib.hid ⟨by omega, Nat.zero_le _⟩, Lib.hid (Below.refl _ _), HO0⟩
  case round =>
    clear HO0
    obtain ⟨j, rfl, HJ, HBl, HO⟩ := hrel
    obtain ⟨j1, j2⟩ := HJ.out
    by_cases hj : j < L.length
    · obtain ⟨kq1, rfl⟩ : ∃ kq1, gk = kq1 + 1 := ⟨gk - 1, by omega⟩
      have hjj : (j : Int) < (L.length : Int) := by omega
      obtain ⟨ad, rfl, hc1⟩ := (HN.out.fr (Fr.of_below HBl.out)).at_ j hj
      have hget : L.getD j ByteArray.empty = L[j] := by simp [List.getD_eq_getElem?_getD, hj]
      rw [hget] at hc1
      have hs32 : L[j].size ≤ 32 := HSZ.out _ (List.getElem_mem hj)
      have hfl := flat_take (fun s => [s, (read d s).1]) L j hj
      obtain ⟨s, hs⟩ : ∃ s, L[j] = s := ⟨_, rfl⟩
      rw [hs] at hc1 hs32 hfl
      have HFL := Lib.hid hfl
      clear hget hs hfl
      go_wp2_with fail
      refine (read_walk wr g b d (HI.out.below (below_step HB2.out HBl.out)) s (by unfold maxLen; omega)).mono ?_
      obtain ⟨r1, hr1⟩ : ∃ r1, (read d s).1 = r1 := ⟨_, rfl⟩
      rintro e W4 ⟨rfl, hb4⟩
      rw [hr1]
      have HR1 := Lib.hid hr1
      have HB4 := Lib.hid hb4
      clear hr1 hb4
      have HOa := Lib.hid ((own_b HO.out HB4.out).alloc (.cells #[.string s, .string r1] 9))
      have HBa := Lib.hid (below_alloc (below_step HBl.out HB4.out) (.cells #[.string s, .string r1] 9))
      have hnews : ∀ (i : Nat) (u : Value), [Value.string s, Value.string r1][i]? = some u → (W4.alloc (.cells #[.string s, .string r1] 9)).cell? ((⟨W4.heap.size, 0, none⟩ : Addr).add i) = some u := fun i u hu => by
        rw [add_plain, blk_cell (heap_alloc_new W4 _) i]
        simpa using hu
      have HNe := Lib.hid hnews
      have hlen : ((L.take j).flatMap fun s => [s, (read d s).1]).length ≤ 128 := by rw [flat_len, List.length_take]; omega
      have HLe := Lib.hid hlen
      clear hnews hlen
      obtain ⟨X, hX⟩ : ∃ X, (L.take j).flatMap (fun s => [s, (read d s).1]) = X := ⟨_, rfl⟩
      rw [hX] at HO HOa HLe HFL
      clear hX
      go_wp2_with (first | (at_builtin; refine wpList_append_own _ rfl (.tmp 21) (.tmp 24) 39 rfl W2.heap.size 9 i0 (.string ByteArray.empty) 1 16 Try.underlying39 HZZ.out.1 HZZ.out.2.1 HZZ.out.2.2.1 HZZ.out.2.2.2 rfl (by decide) _ _ _ rfl HOa.out ⟨W4.heap.size, 0, none⟩ 2 2 [.string s, .string r1] rfl rfl HNe.out (by simp [Value.oneCell']) (by have := HLe.out; unfold maxLen; omega) (by have := HLe.out; omega) (HBa.out.size) ?_; intro v5 W5 ho hg _; have HO5 := Lib.hid ho; have HB5 := Lib.hid (HBa.out.grown hg HBa.out.size (fun k hk => (HOa.out.lt k hk).1)); clear ho hg))
      go_roundg kq1
      case measure => omega
      case rel =>
        refine ⟨j + 1, by go_num, Lib.hid ⟨by omega, by omega⟩, HB5, ?_⟩
        have h5 := HO5.out
        rw [HFL.out, HR1.out]
        refine Lib.hid ?_
        rw [List.length_append, List.map_append]
        exact h5
    · have hjj : ¬ (j : Int) < (L.length : Int) := by omega
      have hje : j = L.length := by omega
      subst hje
      go_wp2
      go_ret
      have hO := HO.out
      rw [List.take_length, ← HAll.out] at hO
      exact ⟨_, rfl, ownsRow_base_a hO HB2.out.size, below_step HB2.out HBl.out⟩
end Go.Proofs.Ytjkllbilfcopmaa.Dk
end

section
namespace Go.Proofs.Ytjkllbilfcopmaa.Dk
open Go.RowKit Go.Proofs.YtjkllbilfcopmaaW.PrintWords Go.Proofs.YtjkllbilfcopmaaW.PrintLast Go.Proofs.YtjkllbilfcopmaaW.PrintMore
set_option linter.unusedVariables false
set_option linter.unusedSimpArgs false
theorem add_far (x : Addr) (k : Nat) (h : 0 < k) : x.add k = ⟨x.block, x.off + k, none⟩ := by
  have : k ≠ 0 := by omega
  simp [Addr.add, this]
/-- A call of a disk, as it came in. -/
structure Act5 where
  kd : Int
  nm : ByteArray
  dt : ByteArray
  n : Int
  da : Option Addr
  dl : Nat
  dc : Nat
  dz : List Int
def RowP (W : World) (a : Option Addr) (len cap : Nat) (zs : List Int) : Prop := (a = none ∧ len = 0 ∧ cap = 0 ∧ zs = []) ∨
    ∃ x, a = some x ∧ len ≤ cap ∧ cap ≤ maxLen ∧ zs.length = cap ∧ (∀ i, i < zs.length → W.cell? (x.add i) = some (.int .i64 (zs.getD i 0))) ∧ ∀ n ∈ zs, (Lit.int .i64 n).wf = true
structure ActOk (W : World) (x : Act5) : Prop where
  kd : (Lit.int .i64 x.kd).wf = true
  nm : x.nm.size ≤ 140737488351232
  dt : x.dt.size ≤ 140737488351232
  n : (Lit.int .i64 x.n).wf = true
  d : RowP W x.da x.dl x.dc x.dz
/-- A slice of calls that came in. -/
def ActsAt (W : World) (A : Option Addr) (acts : List Act5) : Prop := acts.length ≤ maxLen ∧ ∀ i (h : i < acts.length), ActOk W acts[i] ∧ ∃ ad, A = some ad ∧ ad.block < W.heap.size ∧
  W.cell? (ad.add (i * 5)) = some (.int .i64 acts[i].kd) ∧ W.cell? (ad.add (i * 5 + 1)) = some (.string acts[i].nm) ∧ W.cell? (ad.add (i * 5 + 2)) = some (.string acts[i].dt) ∧ W.cell? (ad.add (i * 5 + 3)) = some (.int .i64 acts[i].n) ∧ W.cell? (ad.add (i * 5 + 4)) = some (.slice acts[i].da acts[i].dl acts[i].dc)
theorem row_move {W W1 : World} {a : Option Addr} {len cap : Nat} {zs : List Int} (h : RowP W a len cap zs) (hb : Below W.heap.size W W1) : RowP W1 a len cap zs := by
  rcases h with h | ⟨x, h0, h1, h2, h3, h4, h5⟩
  · exact .inl h
  · refine .inr ⟨x, h0, h1, h2, h3, fun i hi => ?_, h5⟩
    have hlt := World.block_lt_of_cell? W _ (h4 i hi)
    rw [World.cell?_of_block (hb.block _ hlt)]
    exact h4 i hi
theorem ActsAt.move {W W1 : World} {A : Option Addr} {acts : List Act5} (h : ActsAt W A acts) (hb : Below W.heap.size W W1) : ActsAt W1 A acts := by
  refine ⟨h.1, fun i hi => ?_⟩
  obtain ⟨ho, ad, e, hl, h0, h1, h2, h3, h4⟩ := h.2 i hi
  have hm : ∀ j, W1.cell? (ad.add j) = W.cell? (ad.add j) := fun j => World.cell?_of_block (by rw [add_block']; exact hb.block _ hl)
  exact ⟨⟨ho.kd, ho.nm, ho.dt, ho.n, row_move ho.d hb⟩, ad, e, Nat.lt_of_lt_of_le hl hb.size, by rw [hm]; exact h0, by rw [hm]; exact h1, by rw [hm]; exact h2, by rw [hm]; exact h3, by rw [hm]; exact h4⟩
theorem allL_m {d e : DS} (h : d.m = e.m) : allL d = allL e := by
  obtain ⟨m, a, b, c⟩ := d
  obtain ⟨m', a', b', c'⟩ := e
  obtain rfl : m = m' := h
  rfl
set_option maxRecDepth 100000 in
set_option maxHeartbeats 8000000 in
theorem twice_walk (A : Option Addr) (acts : List Act5) (c : Nat) (A1 : Option Addr) (d1 : List Int) (c1 : Nat) (A2 : Option Addr) (d2 : List Int) (c2 : Nat) (W : World) (hA : ActsAt W A acts) (hc : acts.length ≤ c)
    (h1 : (∀ S : Nat → Prop, (∀ k, S k → W.heap.size ≤ k) → IntsAt S W A1 d1) ∧ d1.length ≤ c1 ∧ c1 ≤ maxLen ∧ ∀ x ∈ d1, -9223372036854775808 ≤ x ∧ x ≤ 9223372036854775807)
    (h2 : (∀ S : Nat → Prop, (∀ k, S k → W.heap.size ≤ k) → IntsAt S W A2 d2) ∧ d2.length ≤ c2 ∧ c2 ≤ maxLen ∧ ∀ x ∈ d2, -9223372036854775808 ≤ x ∧ x ≤ 9223372036854775807) :
    Calls Try.prog 5 #[.slice A acts.length c, .slice A1 d1.length c1, .slice A2 d2.length c2] W fun e W' => e = .returned (.bool true) ∧ Below W.heap.size W W' := by
  have HA := Lib.hid hA
  have H1 := Lib.hid h1
  have H2 := Lib.hid h2
  have hal : acts.length ≤ 9223372036854775807 := by have := hA.1; unfold maxLen at this; omega
  have hd1 : d1.length ≤ 9223372036854775807 := by have := h1.2.1; have := h1.2.2.1; unfold maxLen at this; omega
  have hd2 : d2.length ≤ 9223372036854775807 := by have := h2.2.1; have := h2.2.2.1; unfold maxLen at this; omega
  clear hA h1 h2
  go_enter Try.func5, Try.ntmps5
  go_wp2_with fail
  refine (new_at W W (Below.refl _ _)).mono ?_
  rintro e W1 ⟨g, b', rfl, hA⟩
  have HD := Lib.hid hA
  clear hA
  go_wp2_with fail
  refine (works_walk W1).mono ?_
  rintro e W2 ⟨rfl, hB⟩
  have HD2 := Lib.hid (show ∃ d, At W W2 g b' d from ⟨_, HD.out.below hB⟩)
  clear hB HD
  go_wp2_with fail
  go_loopg [8] 101 (fun kq v8 w' => ∃ i : Nat, v8 = .int .i64 (i : Int) ∧ Hid (i + kq = 101 ∧ i ≤ 100) ∧ Hid (∃ d, At W w' g b' d))
  case atStart => exact ⟨0, rfl, Lib.hid ⟨by omega, by omega⟩, HD2⟩
  case round =>
    clear HD2
    obtain ⟨i, rfl, HI, HD⟩ := hrel
    obtain ⟨d, hD⟩ := HD.out
    obtain ⟨i1, i2⟩ := HI.out
    by_cases hi : i < acts.length ∧ i < 100
    · obtain ⟨q1, q2⟩ := hi
      obtain ⟨kq1, rfl⟩ : ∃ kq1, gk = kq1 + 1 := ⟨gk - 1, by omega⟩
      obtain ⟨ho, ad, rfl, hl, e0, e1, e2, e3, e4⟩ := (HA.out.move hD.bel).2 i q1
      have q1' : (i : Int) < (acts.length : Int) := by omega
      have q2' : (i : Int) < 100 := by omega
      obtain ⟨⟨kd, nm, dt, n, da, dl, dc, dz⟩, hx⟩ : ∃ x, acts[i] = x := ⟨_, rfl⟩
      rw [hx] at ho e0 e1 e2 e3 e4
      have HO := Lib.hid ho
      have HDD := Lib.hid hD
      clear hx ho hD HD hl
      simp only at e0 e1 e2 e3 e4
      rw [← add_add ad (i * 5) 1, add_far _ 1 (by decide)] at e1
      rw [← add_add ad (i * 5) 2, add_far _ 2 (by decide)] at e2
      rw [← add_add ad (i * 5) 3, add_far _ 3 (by decide)] at e3
      rw [← add_add ad (i * 5) 4, add_far _ 4 (by decide)] at e4
      have HDA := Lib.hid (HDD.out.alloc (.cells #[.int .i64 kd, .string nm, .string dt, .int .i64 n, .slice da dl dc] 38))
      go_wp2_with fail
      refine (among_walk kd 4 _ HO.out.kd (by decide) (by decide)).mono ?_
      rintro e w' ⟨rfl, rfl⟩
      have h40 := Int.emod_nonneg kd (show (4 : Int) ≠ 0 by decide)
      have h41 := Int.emod_lt_of_pos kd (show (0 : Int) < 4 by decide)
      generalize kd % 4 = km at h40 h41 ⊢
      obtain ⟨hn1, hn2⟩ := wf_i64 HO.out.n
      have hkm : km = 0 ∨ km = 1 ∨ km = 2 ∨ km = 3 := by omega
      clear h40 h41
      rcases hkm with rfl | rfl | rfl | rfl
      · go_wp2_with fail
        refine (append_at HDA.out nm dt (by have := HO.out.nm; simp only at this; unfold maxLen; omega) HO.out.dt).mono ?_
        rintro e W6 ⟨rfl, hA6⟩
        have HD6 := Lib.hid (show ∃ d, At W W6 g b' d from ⟨_, hA6⟩)
        clear hA6 e0 e1 e2 e3 e4
        go_wp2_with fail
        go_roundg kq1
        case measure => omega
        case rel => exact ⟨i + 1, by go_num, Lib.hid ⟨by omega, by omega⟩, HD6⟩
      · go_wp2_with fail
        refine (sync_at HDA.out nm (by have := HO.out.nm; simp only at this; unfold maxLen; omega)).mono ?_
        rintro e W6 ⟨rfl, hA6⟩
        have HD6 := Lib.hid (show ∃ d, At W W6 g b' d from ⟨_, hA6⟩)
        clear hA6 e0 e1 e2 e3 e4
        go_wp2_with fail
        go_roundg kq1
        case measure => omega
        case rel => exact ⟨i + 1, by go_num, Lib.hid ⟨by omega, by omega⟩, HD6⟩
      · go_wp2_with fail
        refine (rename_at HDA.out nm dt (by have := HO.out.nm; simp only at this; unfold maxLen; omega) (by have := HO.out.dt; simp only at this; unfold maxLen; omega)).mono ?_
        rintro e W6 ⟨rfl, hA6⟩
        have HD6 := Lib.hid (show ∃ d, At W W6 g b' d from ⟨_, hA6⟩)
        clear hA6 e0 e1 e2 e3 e4
        go_wp2_with fail
        go_roundg kq1
        case measure => omega
        case rel => exact ⟨i + 1, by go_num, Lib.hid ⟨by omega, by omega⟩, HD6⟩
      · go_wp2_with fail
        refine (fuse_at HDA.out n hn2).mono ?_
        rintro e W6 ⟨rfl, hA6⟩
        have HD6 := Lib.hid (show ∃ d, At W W6 g b' d from ⟨_, hA6⟩)
        clear hA6 e0 e1 e2 e3 e4
        go_wp2_with fail
        go_roundg kq1
        case measure => omega
        case rel => exact ⟨i + 1, by go_num, Lib.hid ⟨by omega, by omega⟩, HD6⟩
    · have hq : i < acts.length → ¬ i < 100 := fun h1 h2 => hi ⟨h1, h2⟩
      have HDD := Lib.hid hD
      clear hD HD i1 hi
      by_cases q1 : i < acts.length
      · have q2 := hq q1
        have q1' : (i : Int) < (acts.length : Int) := by omega
        have q2' : ¬ (i : Int) < 100 := by omega
        clear hq q1 q2
        go_wp2_with fail
        refine (crash_at HDD.out A1 d1 c1 ((H1.out.1 _ HDD.out.two).fr (Fr.of_below HDD.out.bel)) H1.out.2.1 H1.out.2.2.1 H1.out.2.2.2).mono ?_
        rintro e W3 ⟨rfl, hA3, -⟩
        rcases crash_two d d1 with ⟨hz, hl⟩ | ⟨hz, hl⟩
        · rw [hz]
          obtain ⟨d', hd'⟩ : ∃ d', (crash d d1).1 = d' := ⟨_, rfl⟩
          have HDE := Lib.hid (And.intro hz hd')
          rw [hd'] at hA3
          have HA3 := Lib.hid hA3
          clear hA3 hz hl hd'
          go_wp2_with fail
          refine (all_walk W3 g b' _ HA3.out.dk).mono ?_
          rintro e W4 ⟨v, rfl, hrow, hB⟩
          obtain ⟨A4, k4, rfl, hN4, -, -⟩ := own_row (S := Two g b') hrow (fun k hk e => by have := HA3.out.dk.lt; rcases e with e | e <;> omega)
          have HN4 := Lib.hid hN4
          have HA4 := Lib.hid (HA3.out.below hB)
          clear hrow hN4 hB
          go_wp2_with fail
          refine (crash_at HA4.out A2 d2 c2 ((H2.out.1 _ HA4.out.two).fr (Fr.of_below HA4.out.bel)) H2.out.2.1 H2.out.2.2.1 H2.out.2.2.2).mono ?_
          rintro e W5 ⟨rfl, hA5, hF5⟩
          have HN5 := Lib.hid (HN4.out.fr hF5)
          rcases crash_two d' d2 with ⟨hz, hl⟩ | ⟨hz, hl⟩
          · rw [hz]
            have hm : (crash d' d2).1.m = d'.m := by
              have := crash_twice HDD.out.dk.fine d1 d2 HDE.out.1 (by rw [HDE.out.2]; exact hz)
              rw [HDE.out.2] at this
              exact this
            have HL := Lib.hid (allL_m hm)
            have HA5 := Lib.hid hA5
            clear hA5 hF5 hz hl hm
            go_wp2_with fail
            refine (all_walk W5 g b' _ HA5.out.dk).mono ?_
            rw [HL.out]
            rintro e W6 ⟨v, rfl, hrow, hB⟩
            obtain ⟨A6, k6, rfl, hN6, -, -⟩ := own_row (S := fun _ => False) hrow (fun k hk e => e)
            have HN6 := Lib.hid hN6
            have HN56 := Lib.hid (HN5.out.fr (Fr.of_below hB))
            have HA6 := Lib.hid (HA5.out.below hB)
            clear hrow hN6 hB
            go_wp2_with fail
            refine (same_walk W6 _ _ A6 A4 (allL d') k6 k4 HN6.out HN56.out).mono ?_
            rintro e W7 ⟨rfl, hB7⟩
            have HA7 := Lib.hid (HA6.out.below hB7)
            clear hB7
            go_wp2
            go_ret
            exact ⟨rfl, HA7.out.bel⟩
          · rw [hz]
            have hl' : (4096 : Int) < (d2.length : Int) := by omega
            have HA5 := Lib.hid hA5
            clear hA5 hF5 hz hl
            go_wp2
            go_ret
            exact ⟨rfl, HA5.out.bel⟩
        · rw [hz]
          have HA3 := Lib.hid hA3
          clear hA3 hz hl
          go_wp2
          go_ret
          exact ⟨rfl, HA3.out.bel⟩
      · have q1' : ¬ (i : Int) < (acts.length : Int) := by omega
        clear hq q1
        go_wp2_with fail
        refine (crash_at HDD.out A1 d1 c1 ((H1.out.1 _ HDD.out.two).fr (Fr.of_below HDD.out.bel)) H1.out.2.1 H1.out.2.2.1 H1.out.2.2.2).mono ?_
        rintro e W3 ⟨rfl, hA3, -⟩
        rcases crash_two d d1 with ⟨hz, hl⟩ | ⟨hz, hl⟩
        · rw [hz]
          obtain ⟨d', hd'⟩ : ∃ d', (crash d d1).1 = d' := ⟨_, rfl⟩
          have HDE := Lib.hid (And.intro hz hd')
          rw [hd'] at hA3
          have HA3 := Lib.hid hA3
          clear hA3 hz hl hd'
          go_wp2_with fail
          refine (all_walk W3 g b' _ HA3.out.dk).mono ?_
          rintro e W4 ⟨v, rfl, hrow, hB⟩
          obtain ⟨A4, k4, rfl, hN4, -, -⟩ := own_row (S := Two g b') hrow (fun k hk e => by have := HA3.out.dk.lt; rcases e with e | e <;> omega)
          have HN4 := Lib.hid hN4
          have HA4 := Lib.hid (HA3.out.below hB)
          clear hrow hN4 hB
          go_wp2_with fail
          refine (crash_at HA4.out A2 d2 c2 ((H2.out.1 _ HA4.out.two).fr (Fr.of_below HA4.out.bel)) H2.out.2.1 H2.out.2.2.1 H2.out.2.2.2).mono ?_
          rintro e W5 ⟨rfl, hA5, hF5⟩
          have HN5 := Lib.hid (HN4.out.fr hF5)
          rcases crash_two d' d2 with ⟨hz, hl⟩ | ⟨hz, hl⟩
          · rw [hz]
            have hm : (crash d' d2).1.m = d'.m := by
              have := crash_twice HDD.out.dk.fine d1 d2 HDE.out.1 (by rw [HDE.out.2]; exact hz)
              rw [HDE.out.2] at this
              exact this
            have HL := Lib.hid (allL_m hm)
            have HA5 := Lib.hid hA5
            clear hA5 hF5 hz hl hm
            go_wp2_with fail
            refine (all_walk W5 g b' _ HA5.out.dk).mono ?_
            rw [HL.out]
            rintro e W6 ⟨v, rfl, hrow, hB⟩
            obtain ⟨A6, k6, rfl, hN6, -, -⟩ := own_row (S := fun _ => False) hrow (fun k hk e => e)
            have HN6 := Lib.hid hN6
            have HN56 := Lib.hid (HN5.out.fr (Fr.of_below hB))
            have HA6 := Lib.hid (HA5.out.below hB)
            clear hrow hN6 hB
            go_wp2_with fail
            refine (same_walk W6 _ _ A6 A4 (allL d') k6 k4 HN6.out HN56.out).mono ?_
            rintro e W7 ⟨rfl, hB7⟩
            have HA7 := Lib.hid (HA6.out.below hB7)
            clear hB7
            go_wp2
            go_ret
            exact ⟨rfl, HA7.out.bel⟩
          · rw [hz]
            have hl' : (4096 : Int) < (d2.length : Int) := by omega
            have HA5 := Lib.hid hA5
            clear hA5 hF5 hz hl
            go_wp2
            go_ret
            exact ⟨rfl, HA5.out.bel⟩
        · rw [hz]
          have HA3 := Lib.hid hA3
          clear hA3 hz hl
          go_wp2
          go_ret
          exact ⟨rfl, HA3.out.bel⟩
end Go.Proofs.Ytjkllbilfcopmaa.Dk
end

section
namespace Go.Proofs.Ytjkllbilfcopmaa.Dk
open Go.RowKit Go.Deep Go.ChangeShapes Go.WideShapes Go.Proofs.YtjkllbilfcopmaaW.PrintWords
set_option linter.unusedVariables false
set_option linter.unusedSimpArgs false
section
variable {H : Type} {enc : TypeId × Value → H} {W : World} {base : Nat} {spare : Nat → Bool} {held : Bool}
theorem five {α : Type} {l : List α} (h : l.length = 5) : ∃ a b c d e, l = [a, b, c, d, e] := by
  match l, h with
  | [a, b, c, d, e], _ => exact ⟨a, b, c, d, e, rfl⟩
theorem act_open {fuel : Nat} {cs : List Value} {x : DataW H × List MemPlace} (h : DataW.trod enc Try.prog W base spare held fuel 38 cs = some x) :
    ∃ (c0 c1 c2 c3 c4 : Value) (y0 y1 y2 y3 y4 : DataW H × List MemPlace) (n : Nat), cs = [c0, c1, c2, c3, c4] ∧ x.1 = .agg [y0.1, y1.1, y2.1, y3.1, y4.1] ∧
      DataW.trod enc Try.prog W base spare held n 3 [c0] = some y0 ∧ DataW.trod enc Try.prog W base spare held n 9 [c1] = some y1 ∧ DataW.trod enc Try.prog W base spare held n 9 [c2] = some y2 ∧ DataW.trod enc Try.prog W base spare held n 3 [c3] = some y3 ∧ DataW.trod enc Try.prog W base spare held n 29 [c4] = some y4 := by
  have k38 : Try.prog.cellsOf 38 = 5 := by kernel_rfl
  have k3 : Try.prog.cellsOf 3 = 1 := by kernel_rfl
  have k9 : Try.prog.cellsOf 9 = 1 := by kernel_rfl
  have k29 : Try.prog.cellsOf 29 = 1 := by kernel_rfl
  obtain ⟨xs, n, _, hx, hlen, hxl, hg⟩ := DataW.trod_struct Try.underlying38 h
  rw [k38] at hlen
  obtain ⟨c0, c1, c2, c3, c4, rfl⟩ := five hlen
  obtain ⟨y0, y1, y2, y3, y4, rfl⟩ := five hxl
  refine ⟨c0, c1, c2, c3, c4, y0, y1, y2, y3, y4, n, rfl, by rw [hx]; rfl, ?_, ?_, ?_, ?_, ?_⟩
  · simpa [k3] using hg 0 _ rfl
  · simpa [k9] using hg 1 _ rfl
  · simpa [k9] using hg 2 _ rfl
  · simpa [k3] using hg 3 _ rfl
  · simpa [k29] using hg 4 _ rfl
theorem ints_open {fuel : Nat} {c : Value} {x : DataW H × List MemPlace} (h : DataW.trod enc Try.prog W base (fun _ => true) held fuel 29 [c] = some x) : ∃ a len cap zs, c = .slice a len cap ∧ RowP W a len cap zs := by
  rcases open_ints Try.underlying29 Try.underlying3 (by kernel_rfl) h with ⟨hcs, _⟩ | ⟨x, l, c, zs, hcs, _, hl, hm, hz, _, hcell, hwz⟩
  · simp at hcs
    exact ⟨none, 0, 0, [], hcs, .inl ⟨rfl, rfl, rfl, rfl⟩⟩
  · simp at hcs
    exact ⟨some x, l, c, zs, hcs, .inr ⟨_, rfl, hl, hm, by simpa using hz, hcell, hwz⟩⟩
theorem weightsAll_mem {P : Program} {e : TypeId} {d : DataW H} {n : Nat} (hn : n ∈ d.weights P e) : ∀ {ds : List (DataW H)}, d ∈ ds → n ∈ DataW.weightsAll P e ds
  | x :: r, h => by
    simp only [DataW.weightsAll, List.mem_append]
    rcases List.mem_cons.1 h with rfl | h
    · exact .inl hn
    · exact .inr (weightsAll_mem hn h)
theorem list_of {α : Type} {P : Nat → α → Prop} : ∀ {n : Nat}, (∀ i, i < n → ∃ x, P i x) → ∃ l : List α, l.length = n ∧ ∀ i (h : i < l.length), P i l[i]
  | 0, _ => ⟨[], rfl, fun i h => absurd h (by simp)⟩
  | n + 1, h => by
    obtain ⟨l, hl, hp⟩ := list_of (n := n) fun i hi => h i (by omega)
    obtain ⟨x, hx⟩ := h n (by omega)
    refine ⟨l ++ [x], by simp [hl], fun i hi => ?_⟩
    by_cases hil : i < l.length
    · rw [List.getElem_append_left hil]; exact hp i hil
    · have : i = n := by simp at hi; omega
      subst this
      rw [List.getElem_append_right (by omega)]
      simpa [hl] using hx
theorem acts_open {v : Value} {d : DataW H} {ps : List MemPlace} {ts : List TypeId} {ds : List (DataW H)} {j : Nat}
    (hsz : (DataW.weightsEach Try.prog ts ds).all (· ≤ reachBytes) = true) (htj : ts[j]? = some 36) (hdj : ds[j]? = some d)
    (hv : Value.okWide Try.prog W .any base 36 v) (h : DataW.Trod enc Try.prog W 0 (fun _ => true) true 36 v d ps) :
    ∃ (A : Option Addr) (acts : List Act5) (c : Nat), v = .slice A acts.length c ∧ ActsAt W A acts ∧ acts.length ≤ c := by
  obtain ⟨A, n, c, rfl⟩ := okWide_slice Try.underlying36 hv
  obtain ⟨fuel, hf⟩ := h
  have k38 : Try.prog.cellsOf 38 = 5 := by kernel_rfl
  rcases open_slice Try.underlying36 hf with ⟨hcs, _⟩ | ⟨x, l, cc, m, n2, D, Pl, hcs, _, hl, hm, hmm, hx, hi⟩
  · simp [Value.cells] at hcs
    obtain ⟨rfl, rfl, rfl⟩ := hcs
    exact ⟨none, [], 0, rfl, ⟨by simp, fun i hi => absurd hi (by simp)⟩, Nat.le_refl _⟩
  · simp [Value.cells] at hcs
    obtain ⟨rfl, rfl, rfl⟩ := hcs
    have hmc : m = c := by simpa using hmm
    subst hmc
    obtain ⟨hxd, _⟩ := Prod.mk.inj hx
    have hall := DataW.weights_mem_each (P := Try.prog) htj hdj
    have hstr : ∀ i, i < n → ∀ b ∈ DataW.weights Try.prog 38 (D i), b ≤ 140737488351232 := fun i hin b hb => by
      have hmem : b ∈ DataW.weights Try.prog 36 d := by
        rw [hxd]
        simp only [DataW.weights, Try.underlying36, List.mem_cons, List.mem_append]
        exact .inr (.inl (weightsAll_mem hb (List.mem_map.2 ⟨i, List.mem_range.2 hin, rfl⟩)))
      have := List.all_eq_true.1 hsz _ (hall b hmem)
      have hr : reachBytes ≤ 140737488351232 := by decide
      have h2 : b ≤ reachBytes := by simpa using this
      omega
    obtain ⟨acts, hal, hacts⟩ := list_of (n := n) (P := fun i (a : Act5) => ActOk W a ∧ x.block < W.heap.size ∧
      W.cell? (x.add (i * 5)) = some (.int .i64 a.kd) ∧ W.cell? (x.add (i * 5 + 1)) = some (.string a.nm) ∧ W.cell? (x.add (i * 5 + 2)) = some (.string a.dt) ∧ W.cell? (x.add (i * 5 + 3)) = some (.int .i64 a.n) ∧ W.cell? (x.add (i * 5 + 4)) = some (.slice a.da a.dl a.dc)) (fun i hin => by
        obtain ⟨cs', hc, ht'⟩ := hi i (by omega)
        rw [k38] at hc
        obtain ⟨c0, c1, c2, c3, c4, y0, y1, y2, y3, y4, n', rfl, hD, t0, t1, t2, t3, t4⟩ := act_open ht'
        obtain ⟨_, _, hat⟩ := World.cells?_some hc
        obtain ⟨kd, e0, _, w0⟩ := DataW.trod_int Try.underlying3 t0
        obtain ⟨nm, e1, f1, w1⟩ := DataW.trod_string Try.underlying9 t1
        obtain ⟨dt, e2, f2, w2⟩ := DataW.trod_string Try.underlying9 t2
        obtain ⟨nn, e3, _, w3⟩ := DataW.trod_int Try.underlying3 t3
        obtain ⟨da, dl, dc, dz, e4, w4⟩ := ints_open t4
        simp only [List.cons.injEq, and_true] at e0 e1 e2 e3
        subst e0 e1 e2 e3 e4
        have hw : ∀ b ∈ DataW.weightsEach Try.prog [3, 9, 9, 3, 29] [y0.1, y1.1, y2.1, y3.1, y4.1], b ≤ 140737488351232 := fun b hb => hstr i hin b (by
          rw [show D i = .agg [y0.1, y1.1, y2.1, y3.1, y4.1] from hD]
          simp only [DataW.weights, Try.underlying38]
          exact hb)
        have hnm : nm.size ≤ 140737488351232 := by
          have := hw nm.data.toList.length (DataW.weights_mem_each (j := 1) rfl rfl _ (by rw [f1]; simp [DataW.weights]))
          rwa [Array.length_toList] at this
        have hdt : dt.size ≤ 140737488351232 := by
          have := hw dt.data.toList.length (DataW.weights_mem_each (j := 2) rfl rfl _ (by rw [f2]; simp [DataW.weights]))
          rwa [Array.length_toList] at this
        have g0 := hat 0 (by decide)
        have g1 := hat 1 (by decide)
        have g2 := hat 2 (by decide)
        have g3 := hat 3 (by decide)
        have g4 := hat 4 (by decide)
        have hblk := World.block_lt_of_cell? W _ g0
        rw [add_block', add_block'] at hblk
        refine ⟨⟨kd, nm, dt, nn, da, dl, dc, dz⟩, ⟨w0, hnm, hdt, w3, w4⟩, hblk, ?_, ?_, ?_, ?_, ?_⟩
        · rw [Dk.add_add] at g0; exact g0
        · rw [Dk.add_add] at g1; exact g1
        · rw [Dk.add_add] at g2; exact g2
        · rw [Dk.add_add] at g3; exact g3
        · rw [Dk.add_add] at g4; exact g4)
    refine ⟨some x, acts, m, by rw [hal], ⟨by omega, fun i hi2 => ?_⟩, by omega⟩
    obtain ⟨ho, hb, h0, h1, h2, h3, h4⟩ := hacts i hi2
    exact ⟨ho, x, rfl, hb, h0, h1, h2, h3, h4⟩
end
theorem twice_row (A : Option Addr) (acts : List Act5) (c : Nat) (a1 : Option Addr) (len1 cap1 : Nat) (z1 : List Int) (a2 : Option Addr) (len2 cap2 : Nat) (z2 : List Int) (W : World) (hA : ActsAt W A acts) (hc : acts.length ≤ c) (h1 : RowP W a1 len1 cap1 z1) (h2 : RowP W a2 len2 cap2 z2) :
    Calls Try.prog 5 #[.slice A acts.length c, .slice a1 len1 cap1, .slice a2 len2 cap2] W fun e W' => e = .returned (.bool true) ∧ Below W.heap.size W W' := by
  obtain ⟨p1, p2, p3, p4, p5⟩ := row_ints h1
  obtain ⟨q1, q2, q3, q4, q5⟩ := row_ints h2
  have := twice_walk A acts c a1 (z1.take len1) cap1 a2 (z2.take len2) cap2 W hA hc ⟨p4, by omega, p3, p5⟩ ⟨q4, by omega, q3, q5⟩
  rw [p1, q1] at this
  exact this
end Go.Proofs.Ytjkllbilfcopmaa.Dk
end
