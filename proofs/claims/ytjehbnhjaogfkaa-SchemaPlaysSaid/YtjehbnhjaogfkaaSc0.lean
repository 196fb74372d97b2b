import Derived.Test.YtjehbnhjaogfkaaProg
import Derived.Test.YtjehbnhjaogfkaaFM
import Derived.Test.YtjehbnhjaogfkaaFL
import Derived.Test.YtjehbnhjaogfkaaWMore
import Derived.LoopTactic
import Derived.WalkMore
import Derived.Lib.Hide
import Derived.WalkSpells
import Derived.WalkKit
import Derived.KernelRfl
import Derived.RowKit3
import Derived.Outline
import Derived.Maps.OwnSet
import Derived.BigQuiet
import Derived.StillTailTactics
import Derived.Carry
import Derived.Deep.LoopGhost
import Derived.Deep.RegionHeld3
import Derived.WalkLawsBesides
import Derived.Deep.DeepCutAuto
namespace Go.Proofs.Ytjehbnhjaogfkaa.Sc
open Go.RowKit Go.Proofs.YtjehbnhjaogfkaaW.PrintWords Go.Proofs.YtjehbnhjaogfkaaW.PrintLast Go.Proofs.YtjehbnhjaogfkaaW.PrintMore
open Go.Proofs.Ytjehbnhjaogfkaa
set_option linter.unusedVariables false
set_option linter.unusedSimpArgs false
/-- What a call leaves: all but the blocks of S. -/
structure Fr (S : Nat → Prop) (w w' : World) : Prop where
  os : w'.os = w.os
  tape : w'.tape = w.tape
  output : w'.output = w.output
  size : w.heap.size ≤ w'.heap.size
  block : ∀ k, k < w.heap.size → ¬ S k → w'.heap[k]? = w.heap[k]?
theorem Fr.refl (S : Nat → Prop) (w : World) : Fr S w w := ⟨rfl, rfl, rfl, Nat.le_refl _, fun _ _ _ => rfl⟩
theorem Fr.trans {S : Nat → Prop} {a b c : World} (h : Fr S a b) (k : Fr S b c) : Fr S a c := ⟨k.os.trans h.os, k.tape.trans h.tape, k.output.trans h.output, Nat.le_trans h.size k.size, fun i hi hn => (k.block i (Nat.lt_of_lt_of_le hi h.size) hn).trans (h.block i hi hn)⟩
theorem Fr.of_below {S : Nat → Prop} {a b : World} (h : Below a.heap.size a b) : Fr S a b := ⟨h.os, h.tape, h.output, h.size, fun i hi _ => h.block i hi⟩
theorem Fr.mono {S T : Nat → Prop} {a b : World} (h : Fr S a b) (hs : ∀ k, S k → T k) : Fr T a b := ⟨h.os, h.tape, h.output, h.size, fun i hi hn => h.block i hi fun hk => hn (hs i hk)⟩
theorem Fr.alloc {S : Nat → Prop} {a b : World} (h : Fr S a b) (o : Obj) : Fr S a (b.alloc o) := h.trans (Fr.of_below (below_alloc (Below.refl _ _) o))
theorem Fr.drew {S : Nat → Prop} {a b : World} (h : Fr S a b) : Fr S a b.drew := h.trans (Fr.of_below (below_drew (Below.refl _ _)))
theorem Fr.drewN {S : Nat → Prop} {a b : World} (h : Fr S a b) (n : Nat) : Fr S a (b.drewN n) := h.trans (Fr.of_below (pw_below_drewN (Below.refl _ _) n))
theorem Fr.set {S : Nat → Prop} {a b : World} (h : Fr S a b) {p : Addr} (hp : S p.block ∨ a.heap.size ≤ p.block) (u : Value) : Fr S a (b.setCell p u) :=
  ⟨h.os, h.tape, h.output, by have := h.size; simpa [World.setCell] using this, fun i hi hn => (Below.heap_setCell b p u i (fun e => hp.elim (fun hp => hn (e ▸ hp)) (fun hp => by omega))).trans (h.block i hi hn)⟩
theorem Fr.grown {S : Nat → Prop} {a b c : World} (h : Fr S a b) {r : Nat} (hg : b.grownBy c (some r)) (hr : S r ∨ a.heap.size ≤ r) : Fr S a c :=
  ⟨hg.os.trans h.os, hg.tape.trans h.tape, hg.output.trans h.output, Nat.le_trans h.size hg.size, fun i hi hn => (hg.block i (Nat.lt_of_lt_of_le hi h.size) fun e => by cases e; exact hr.elim hn (fun hr => by omega)).trans (h.block i hi hn)⟩
theorem Fr.below {S : Nat → Prop} {w0 a b : World} (h : Fr S a b) (hb : Below w0.heap.size w0 a) (hS : ∀ k, S k → w0.heap.size ≤ k) : Below w0.heap.size w0 b :=
  ⟨h.os.trans hb.os, h.tape.trans hb.tape, h.output.trans hb.output, Nat.le_trans hb.size h.size, fun k hk => (h.block k (Nat.lt_of_lt_of_le hk hb.size) fun hs => absurd (hS k hs) (by omega)).trans (hb.block k hk)⟩
theorem Fr.to_below {S : Nat → Prop} {w0 a : World} (h : Fr S w0 a) (hS : ∀ k, S k → w0.heap.size ≤ k) : Below w0.heap.size w0 a := h.below (Below.refl _ _) hS
theorem bstep {base : Nat} {w W W1 : World} (h : Below base w W) (hb : Below W.heap.size W W1) (hl : base ≤ W.heap.size) : Below base w W1 := h.trans (hb.mono hl)
theorem step {w W W1 : World} (h : Below w.heap.size w W) (hb : Below W.heap.size W W1) : Below w.heap.size w W1 := h.trans (hb.mono h.size)
theorem cell_alloc {W : World} {a : Addr} {v : Value} (o : Obj) (h : W.cell? a = some v) : (W.alloc o).cell? a = some v := (World.cell?_alloc_lt _ _ _ (World.block_lt_of_cell? _ _ h)).trans h
/-! The plain model. -/
structure Col where
  nm : ByteArray
  kd : Int
structure Ix where
  nm : ByteArray
  cols : List Int
  uq : Bool
structure Tb where
  nm : ByteArray
  cols : List Col
  key : Int
  ixs : List Ix
def nmC (c : UInt8) : Bool := (97 ≤ c && c ≤ 122) || (48 ≤ c && c ≤ 57)
/-- May a name be? -/
def nmOk (s : ByteArray) : Bool := !s.data.toList.isEmpty && decide (s.size ≤ 32) && s.data.toList.all nmC
def ins (n lo hi : Int) : Bool := decide (lo ≤ n) && decide (n ≤ hi)
def colOk (c : Col) : Bool := ins c.kd 1 5
def ixOk (many : Int) (x : Ix) : Bool := ins x.cols.length 1 32 && x.cols.all fun n => ins n 0 (many - 1)
def dist : List (List UInt8) → List ByteArray → Bool
  | _, [] => true
  | seen, s :: r => if nmOk s && !decide (s.data.toList ∈ seen) then dist (s.data.toList :: seen) r else false
def ck1 (t : Tb) : Bool := nmOk t.nm && ins t.cols.length 1 32 && ins t.key 1 t.cols.length && decide (t.ixs.length ≤ 8)
def ck2 (t : Tb) : Bool := ck1 t && dist [] (t.cols.map (·.nm)) && dist [] (t.ixs.map (·.nm))
/-- May a schema be? -/
def chk (t : Tb) : Bool := ck2 t && t.cols.all colOk && t.ixs.all (ixOk t.cols.length)
/-! The kinds. -/
def kcol : Kd Col := Kd.iso (Kd.pair Kd.string (Kd.int .i64)) fun x => (x.nm, x.kd)
def kix : Kd Ix := Kd.iso (Kd.pair Kd.string (Kd.pair (Kd.slice 3 (Kd.int .i64)) Kd.bool)) fun x => (x.nm, x.cols, x.uq)
def ktb : Kd Tb := Kd.iso (Kd.pair Kd.string (Kd.pair (Kd.slice 32 kcol) (Kd.pair (Kd.int .i64) (Kd.slice 67 kix)))) fun x => (x.nm, x.cols, x.key, x.ixs)
theorem kcol_K {W : World} {x : Col} {cs : List Value} : kcol.K W x cs ↔ cs = [.string x.nm, .int .i64 x.kd] := by
  constructor
  · rintro ⟨_, _, rfl, rfl, rfl⟩
    rfl
  · rintro rfl
    exact ⟨[.string x.nm], [.int .i64 x.kd], rfl, rfl, rfl⟩
theorem kix_K {W : World} {x : Ix} {cs : List Value} : kix.K W x cs ↔ ∃ A c, cs = [.string x.nm, .slice A x.cols.length c, .bool x.uq] ∧ x.cols.length ≤ c ∧ (Kd.int .i64).C W A x.cols.length x.cols := by
  constructor
  · rintro ⟨_, _, rfl, rfl, _, _, rfl, ⟨A, c, rfl, hl, hC⟩, rfl⟩
    exact ⟨A, c, rfl, hl, hC⟩
  · rintro ⟨A, c, rfl, hl, hC⟩
    exact ⟨[.string x.nm], [.slice A x.cols.length c, .bool x.uq], rfl, rfl, [.slice A x.cols.length c], [.bool x.uq], rfl, ⟨A, c, rfl, hl, hC⟩, rfl⟩
theorem ktb_K {W : World} {x : Tb} {cs : List Value} : ktb.K W x cs ↔ ∃ A c B e, cs = [.string x.nm, .slice A x.cols.length c, .int .i64 x.key, .slice B x.ixs.length e] ∧ x.cols.length ≤ c ∧ kcol.C W A x.cols.length x.cols ∧ x.ixs.length ≤ e ∧ kix.C W B x.ixs.length x.ixs := by
  constructor
  · rintro ⟨_, _, rfl, rfl, _, _, rfl, ⟨A, c, rfl, hl, hC⟩, _, _, rfl, rfl, ⟨B, e, rfl, hl2, hC2⟩⟩
    exact ⟨A, c, B, e, rfl, hl, hC, hl2, hC2⟩
  · rintro ⟨A, c, B, e, rfl, hl, hC, hl2, hC2⟩
    exact ⟨[.string x.nm], [.slice A x.cols.length c, .int .i64 x.key, .slice B x.ixs.length e], rfl, rfl, [.slice A x.cols.length c], [.int .i64 x.key, .slice B x.ixs.length e], rfl, ⟨A, c, rfl, hl, hC⟩, [.int .i64 x.key], [.slice B x.ixs.length e], rfl, rfl, ⟨B, e, rfl, hl2, hC2⟩⟩
theorem info32 : (Try.prog.info? 32).map (fun i => (i.zero, i.size, i.bytes)) = some (some (.agg #[.string ⟨#[]⟩, .int .i64 0]), 2, 24) := by kernel_rfl
theorem info67 : (Try.prog.info? 67).map (fun i => (i.zero, i.size, i.bytes)) = some (some (.agg #[.string ⟨#[]⟩, .slice none 0 0, .bool false]), 3, 48) := by kernel_rfl
end Go.Proofs.Ytjehbnhjaogfkaa.Sc
