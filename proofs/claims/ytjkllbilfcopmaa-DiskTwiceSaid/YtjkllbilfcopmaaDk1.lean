import Derived.Test.YtjkllbilfcopmaaDk0
import Derived.Maps.OwnSet
import Derived.BigQuiet
import Derived.StillTailTactics
import Derived.Carry
namespace Go.Proofs.Ytjkllbilfcopmaa.Dk
open Go.RowKit Go.Proofs.YtjkllbilfcopmaaW.PrintWords Go.Proofs.YtjkllbilfcopmaaW.PrintLast Go.Proofs.YtjkllbilfcopmaaW.PrintMore
set_option linter.unusedVariables false
set_option linter.unusedSimpArgs false
/-- What a call leaves: all but the blocks of S. -/
structure Fr (S : Nat → Prop) (w w' : World) : Prop where
  os : w'.os = w.os
  tape : w'.tape = w.tape
  output : w'.output = w.output
  size : w.heap.size ≤ w'.heap.size
  block : ∀ k, k < w.heap.size → ¬ S k → w'.heap[k]? = w.heap[k]?
theorem Fr.refl (S : Nat → Prop) (w : World) : Fr S w w := ⟨rfl, rfl, rfl, Nat.le_refl _, fun _ _ _ => rfl⟩
theorem Fr.trans {S : Nat → Prop} {a b c : World} (h : Fr S a b) (k : Fr S b c) : Fr S a c := ⟨k.os.trans h.os, k.tape.trans h.tape, k.output.trans h.output, Nat.le_trans h.size k.size, fun i hi hn => (k.block i (Nat.lt_of_lt_of_le hi h.size) hn).trans (h.block i hi hn)⟩
theorem Fr.of_below {S : Nat → Prop} {a b : World} (h : Below a.heap.size a b) : Fr S a b := ⟨h.os, h.tape, h.output, h.size, fun i hi _ => h.block i hi⟩
theorem Fr.mono {S T : Nat → Prop} {a b : World} (h : Fr S a b) (hs : ∀ k, S k → T k) : Fr T a b := ⟨h.os, h.tape, h.output, h.size, fun i hi hn => h.block i hi fun hk => hn (hs i hk)⟩
theorem Fr.alloc {S : Nat → Prop} {a b : World} (h : Fr S a b) (o : Obj) : Fr S a (b.alloc o) := h.trans (Fr.of_below (below_alloc (Below.refl _ _) o))
theorem Fr.drew {S : Nat → Prop} {a b : World} (h : Fr S a b) : Fr S a b.drew := h.trans (Fr.of_below (below_drew (Below.refl _ _)))
theorem Fr.drewN {S : Nat → Prop} {a b : World} (h : Fr S a b) (n : Nat) : Fr S a (b.drewN n) := h.trans (Fr.of_below (pw_below_drewN (Below.refl _ _) n))
theorem Fr.set {S : Nat → Prop} {a b : World} (h : Fr S a b) {p : Addr} (hp : S p.block ∨ a.heap.size ≤ p.block) (u : Value) : Fr S a (b.setCell p u) :=
  ⟨h.os, h.tape, h.output, by have := h.size; simpa [World.setCell] using this, fun i hi hn => (Below.heap_setCell b p u i (fun e => hp.elim (fun hp => hn (e ▸ hp)) (fun hp => by omega))).trans (h.block i hi hn)⟩
theorem Fr.grown {S : Nat → Prop} {a b c : World} (h : Fr S a b) {r : Nat} (hg : b.grownBy c (some r)) (hr : S r) : Fr S a c :=
  h.trans ⟨hg.os, hg.tape, hg.output, hg.size, fun i hi hn => hg.block i hi fun e => hn (by cases e; exact hr)⟩
theorem Fr.below {S : Nat → Prop} {w0 a b : World} (h : Fr S a b) (hb : Below w0.heap.size w0 a) (hS : ∀ k, S k → w0.heap.size ≤ k) : Below w0.heap.size w0 b :=
  ⟨h.os.trans hb.os, h.tape.trans hb.tape, h.output.trans hb.output, Nat.le_trans hb.size h.size, fun k hk => (h.block k (Nat.lt_of_lt_of_le hk hb.size) fun hs => absurd (hS k hs) (by omega)).trans (hb.block k hk)⟩
def cellsD (b : Nat) (fu dn : Bool) (l : Int) : Array Value := #[.map (some b), .bool fu, .bool dn, .int .i64 l]
abbrev Two (g b : Nat) : Nat → Prop := fun k => k = g ∨ k = b
abbrev Own (W : World) (b : Nat) (m : Fs) : Prop := W.ownsMap (H := Unit) Try.prog 9 fileR b m.length (FM.toD fileD m)
/-- A disk at block g, its map at block b. -/
structure IsDk (W : World) (g b : Nat) (d : DS) : Prop where
  blk : W.heap[g]? = some (.cells (cellsD b d.fused d.down d.left) 53 (0, 0))
  own : Own W b d.m
  fine : Fine d
theorem IsDk.ne {W : World} {g b : Nat} {d : DS} (h : IsDk W g b d) : g ≠ b := fun e => by
  obtain ⟨es, cl, hb, _⟩ := h.own
  rw [← e, h.blk] at hb
  cases hb
theorem IsDk.lt {W : World} {g b : Nat} {d : DS} (h : IsDk W g b d) : g < W.heap.size ∧ b < W.heap.size := ⟨blk_lt h.blk, h.own.lt⟩
theorem own_move {W W1 : World} {b : Nat} {m : Fs} (h : Own W b m) (hb : W1.heap[b]? = W.heap[b]?) : Own W1 b m := by
  obtain ⟨es, cl, h1, h2⟩ := h
  exact ⟨es, cl, hb.trans h1, h2⟩
theorem IsDk.move {W W1 : World} {g b : Nat} {d : DS} (h : IsDk W g b d) (h1 : W1.heap[g]? = W.heap[g]?) (h2 : W1.heap[b]? = W.heap[b]?) : IsDk W1 g b d := ⟨h1.trans h.blk, own_move h.own h2, h.fine⟩
theorem IsDk.fr {W W1 : World} {g b : Nat} {d : DS} {S : Nat → Prop} (h : IsDk W g b d) (hf : Fr S W W1) (hg : ¬ S g) (hb : ¬ S b) : IsDk W1 g b d := h.move (hf.block g h.lt.1 hg) (hf.block b h.lt.2 hb)
theorem IsDk.below {W W1 : World} {g b : Nat} {d : DS} (h : IsDk W g b d) (hb : Below W.heap.size W W1) : IsDk W1 g b d := h.move (hb.block g h.lt.1) (hb.block b h.lt.2)
/-- As tight a bound as there is. -/
theorem own_tight {W : World} {b n : Nat} {m : Fs} (h : W.ownsMap (H := Unit) Try.prog 9 fileR b n (FM.toD fileD m)) : Own W b m := by
  obtain ⟨es, cl, h1, h2, h3, h4⟩ := h
  refine ⟨es, cl, h1, h2, ?_, h4⟩
  have := congrArg Maps.size h4
  rw [FM.toD_size, Maps.size_eq, length_sorted] at this
  rw [this]
  simp
theorem new_walk (w : World) : Calls Try.prog 9 #[] w fun e w' => e = .returned (.pointer (some ⟨w.heap.size + 1, 0, none⟩)) ∧ IsDk w' (w.heap.size + 1) w.heap.size new ∧ Below w.heap.size w w' := by
  have hmm := @run_makeMap Try.prog
  go_enter Try.func9, Try.ntmps9
  go_wp2
  go_ret
  refine ⟨rfl, ⟨?_, ?_, new_fine⟩, below_alloc (below_alloc (Below.refl _ _) _) _⟩
  · have := heap_alloc_new (w.alloc (.map #[] 0)) (.cells #[.map (some w.heap.size), .bool false, .bool false, .int .i64 0] 53)
    rw [show (w.alloc (.map #[] 0)).heap.size = w.heap.size + 1 by simp] at this
    exact this
  · exact (World.ownsMap_made w Try.prog 9 fileR).alloc _
theorem chg_true {m : Fs} {fu dn : Bool} {l : Int} (h : (DS.mk m fu dn l).ok = true) : (DS.mk m fu dn l).chg = if fu then ⟨m, fu, dn, l - 1⟩ else ⟨m, fu, dn, l⟩ := by
  unfold DS.chg; rw [h]; rfl
theorem chg_walk (W : World) (g b : Nat) (d : DS) (h : IsDk W g b d) : Calls Try.prog 25 #[.pointer (some ⟨g, 0, none⟩)] W fun e W' => e = .returned (.bool d.ok) ∧ IsDk W' g b d.chg ∧ Fr (Two g b) W W' := by
  have HF := Lib.hid h.fine.chg
  have HI := Lib.hid h
  obtain ⟨m, fu, dn, l⟩ := d
  have hblk := h.blk
  have hl : 0 ≤ l ∧ l ≤ 9223372036854775807 := h.fine.left
  obtain ⟨hl0, hl1⟩ := hl
  have c1 := (blk_cell hblk 1).trans (show _ = some (Value.bool fu) from rfl)
  have c2 := (blk_cell hblk 2).trans (show _ = some (Value.bool dn) from rfl)
  have c3 := (blk_cell hblk 3).trans (show _ = some (Value.int .i64 l) from rfl)
  have f2 := blk_frozen hblk 2
  have f3 := blk_frozen hblk 3
  have HB := Lib.hid hblk
  have HN := Lib.hid h.ne
  clear hblk h
  have HD : Hid (∀ v : Value, IsDk W g b ⟨m, fu, dn, l⟩ → (∀ d', Fine d' → (∀ j u, (cellsD b fu dn l).setIfInBounds j u = cellsD b d'.fused d'.down d'.left → d'.m = m → IsDk (W.setCell ⟨g, j, none⟩ u) g b d' ∧ Fr (Two g b) W (W.setCell ⟨g, j, none⟩ u)))) := Lib.hid fun _ hI d' hf j u he hm =>
    ⟨⟨blk_put hI.blk j u he, by rw [hm]; exact own_move hI.own (Below.heap_setCell W ⟨g, j, none⟩ u b fun e => hI.ne e.symm), hf⟩, (Fr.refl _ _).set (.inl (.inl rfl)) _⟩
  by_cases hok : (DS.mk m fu dn l).ok = true
  · have HC := Lib.hid (chg_true hok)
    rw [hok]
    unfold DS.ok at hok
    cases dn with
    | true => simp at hok
    | false =>
      cases fu with
      | true =>
        have hz : ¬ l = 0 := by simpa using hok
        have hzb : (l == 0) = false := by simpa using hz
        have hl2 : 0 ≤ l - 1 := by omega
        clear hok hz
        go_enter Try.func25, Try.ntmps25
        go_wp2
        go_ret
        refine ⟨rfl, ?_⟩
        have e := HC.out
        rw [if_pos trivial] at e
        rw [e]
        exact HD.out undef HI.out _ (by rw [← e]; exact HF.out) 3 _ rfl rfl
      | false =>
        clear hok
        go_enter Try.func25, Try.ntmps25
        go_wp2
        go_ret
        have e := HC.out
        rw [if_neg (by simp)] at e
        rw [e]
        exact ⟨rfl, HI.out, Fr.refl _ _⟩
  · have hok' : (DS.mk m fu dn l).ok = false := by simpa using hok
    have HC := Lib.hid (show (DS.mk m fu dn l).chg = ⟨m, fu, true, l⟩ from by unfold DS.chg; rw [hok', if_neg (by decide)])
    rw [hok']
    unfold DS.ok at hok'
    clear hok
    cases dn with
    | true =>
      clear hok'
      cases fu with
      | true =>
        by_cases hz : l = 0
        · subst hz
          go_enter Try.func25, Try.ntmps25
          go_wp2
          go_ret
          rw [HC.out]
          exact ⟨rfl, HD.out undef HI.out _ (by rw [← HC.out]; exact HF.out) 2 _ rfl rfl⟩
        · have hzb : (l == 0) = false := by simpa using hz
          clear hz
          go_enter Try.func25, Try.ntmps25
          go_wp2
          go_ret
          rw [HC.out]
          exact ⟨rfl, HI.out, Fr.refl _ _⟩
      | false =>
        go_enter Try.func25, Try.ntmps25
        go_wp2
        go_ret
        rw [HC.out]
        exact ⟨rfl, HI.out, Fr.refl _ _⟩
    | false =>
      cases fu with
      | false => simp at hok'
      | true =>
        have hz : l = 0 := by simpa using hok'
        subst hz
        clear hok'
        go_enter Try.func25, Try.ntmps25
        go_wp2
        go_ret
        rw [HC.out]
        exact ⟨rfl, HD.out undef HI.out _ (by rw [← HC.out]; exact HF.out) 2 _ rfl rfl⟩
end Go.Proofs.Ytjkllbilfcopmaa.Dk
