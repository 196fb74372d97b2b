import Derived.Test.YtmfbmagbpceomaaWireCore
import Derived.BigRegion
import Derived.Laws.CopyOwn
import Derived.Deep.RegionLaw
namespace Go.Proofs.Ytmfbmagbpceomaa.Wire
open Go.RowKit Go.Proofs.YtmfbmagbpceomaaW.PrintWords Go.Proofs.YtmfbmagbpceomaaW.PrintLast Go.Proofs.YtmfbmagbpceomaaW.PrintMore
set_option linter.unusedVariables false
set_option linter.unusedSimpArgs false
/-- What one call answers: the bodies, the error, what is kept, whether it is bad. -/
def fl : Nat → List Int → List ByteArray → Nat → List ByteArray × Int × List Int × Bool
  | 0, all, acc, at_ => (acc, 0, all.drop at_, false)
  | k + 1, all, acc, at_ =>
    if all.length < at_ + 4 then (acc, 0, all.drop at_, false) else
    if 65536 < be4 (rd all (at_ : Nat)) (rd all (at_ + 1 : Nat)) (rd all (at_ + 2 : Nat)) (rd all (at_ + 3 : Nat)) then (acc, 70, [], true) else
    if all.length < at_ + 4 + (be4 (rd all (at_ : Nat)) (rd all (at_ + 1 : Nat)) (rd all (at_ + 2 : Nat)) (rd all (at_ + 3 : Nat))).toNat then (acc, 0, all.drop at_, false) else
    fl k all (acc ++ [strOfNums ((all.drop (at_ + 4)).take (be4 (rd all (at_ : Nat)) (rd all (at_ + 1 : Nat)) (rd all (at_ + 2 : Nat)) (rd all (at_ + 3 : Nat))).toNat)]) (at_ + 4 + (be4 (rd all (at_ : Nat)) (rd all (at_ + 1 : Nat)) (rd all (at_ + 2 : Nat)) (rd all (at_ + 3 : Nat))).toNat)
def feedF (kept : List Int) (bad : Bool) (b : ByteArray) : List ByteArray × Int × List Int × Bool :=
  if bad then ([], 70, kept, true) else if 262144 < b.size then ([], 2, kept, false) else fl ((kept ++ bytesOf b).length + 1) (kept ++ bytesOf b) [] 0
/-- What a call of Feed leaves. -/
def FeedPost (w0 w : World) (g : Nat) (r : List ByteArray × Int × List Int × Bool) (e : Ending) (w' : World) : Prop :=
  ∃ v, e = .returned (.tuple #[v, .int .i64 r.2.1]) ∧ Kd.R Kd.string 9 w' w.heap.size (fun _ => True) v r.1 ∧ St w0 w' g r.2.2.1 r.2.2.2 ∧ Below w0.heap.size w0 w' ∧ KT w w' g
theorem feed_bad (g : Nat) (kept : List Int) (b : ByteArray) (w0 w : World) (hS : St w0 w g kept true) (hB : Below w0.heap.size w0 w) :
    Calls Try.prog 19 #[.pointer (some ⟨g, 0, none⟩), .string b] w (FeedPost w0 w g (feedF kept true b)) := by
  have hS' := hS
  obtain ⟨hge, kv, hb, ho⟩ := hS'
  have c0 := blk_cell hb 0
  have c1 := blk_cell hb 1
  simp at c0 c1
  clear hb ho
  go_enter Try.func19, Try.ntmps19
  go_wp2
  go_ret2
  exact ⟨_, rfl, Kd.R_nil _ _ _ _ _, hS, hB, KT.refl _ _⟩
theorem feed_long (g : Nat) (kept : List Int) (b : ByteArray) (w0 w : World) (hS : St w0 w g kept false) (hB : Below w0.heap.size w0 w) (hb : 262144 < b.size) :
    Calls Try.prog 19 #[.pointer (some ⟨g, 0, none⟩), .string b] w (FeedPost w0 w g (feedF kept false b)) := by
  have hf : feedF kept false b = ([], 2, kept, false) := by simp [feedF, hb]
  rw [hf]
  have hS' := hS
  obtain ⟨hge, kv, hbl, ho⟩ := hS'
  have c0 := blk_cell hbl 0
  have c1 := blk_cell hbl 1
  simp at c0 c1
  clear hbl ho hf
  have hz : decide (262144 < (b.size : Int)) = true := decide_eq_true (by omega)
  go_enter Try.func19, Try.ntmps19
  go_wp2
  go_ret2
  exact ⟨_, rfl, Kd.R_nil _ _ _ _ _, hS, hB, KT.refl _ _⟩
theorem own8 {W : World} {base c : Nat} {A : Option Addr} {xs : List Int} (h : W.ownsRow base 5 1 (.slice A xs.length c) xs.length (nums .u8 xs)) :
    xs.length ≤ c ∧ ReadsInt W .u8 A xs.length xs ∧ (0 < xs.length → ∃ kb cur, A = some ⟨kb, 0, none⟩ ∧ base ≤ kb ∧ W.heap[kb]? = some (.cells cur 5 (0, 0)) ∧ cur.size = c ∧ c ≤ maxLen ∧ cur.toList.take xs.length = nums .u8 xs ∧ ∀ j : Nat, j < xs.length → W.cell? ⟨kb, j, none⟩ = some (.int .u8 (rd xs j))) := by
  obtain ⟨A', c', he, hr⟩ := own_reads h
  injection he with e1 e2 e3
  subst e1; subst e3
  refine ⟨?_, hr, fun hp => ?_⟩
  · rcases h.2 with ⟨hv, h0⟩ | ⟨g, cap, cur, hv, hb, hh, hnc, _⟩
    · injection hv with _ _ hv; omega
    · injection hv with _ _ hv; omega
  · rcases h.2 with ⟨hv, h0⟩ | ⟨g, cap, cur, hv, hb, hh, hnc, hc, hs, ht⟩
    · omega
    · injection hv with ha _ hv
      subst hv
      subst ha
      obtain ⟨ad, had, hcl⟩ := hr.2.2 hp
      injection had with had
      subst had
      refine ⟨g, cur, rfl, hb, hh, by omega, hc, by simpa using ht, fun j hj => ?_⟩
      have := hcl j hj
      rwa [add_plain] at this
/-- One copy in a region: the row that is written is named; the rest stands. -/
theorem step_copy_mine {P : Program} {ops : Array Oper} {o : Oper} {a : Act} {w : World} {K : Act → World → Prop} {Q : Exit → Act → World → Prop} {E : Prop} (hgd : o.guard = none) (d s : Operand) (dT sT : TypeId)
    (ho : o.op = .call { callee := .builtin .copy, args := #[d, s], argTypes := #[dT, sT] }) (elem : TypeId) (hu : P.underlying dT = some (.slice elem)) (hsz : (P.info? elem).map (·.size) = some 1)
    (dp sp : Option Addr) (dLen dCap sLen sCap : Nat) (hd : a.eval d = .slice dp dLen dCap) (hs : a.eval s = .slice sp sLen sCap)
    (g off : Nat) (cur : List Value) (t : TypeId) (hg : w.heap[g]? = some (.cells cur.toArray t (0, 0))) (cs : List Value) (hn : cs.length = Nat.min sLen dLen)
    (hpos : 0 < cs.length → dp = some ⟨g, off, none⟩ ∧ ∃ ad, sp = some ad ∧ ∀ j v, cs[j]? = some v → w.cell? (ad.add j) = some v)
    (hfit : off + cs.length ≤ cur.length) (h1 : ∀ v ∈ cs, v.oneCell' = true)
    (h : ∀ w', w'.heap[g]? = some (.cells (cur.take off ++ (cs ++ cur.drop (off + cs.length))).toArray t (0, 0)) → w.grownBy w' (some g) → K (a.put o.dst (goInt cs.length)) w') :
    if Region.wanted o (yielded ops a.tmps) = true then Oper.wp P o a w K Q else E := by
  have hw : Region.wanted o (yielded ops a.tmps) = true := by simp [Region.wanted, hgd]
  rw [if_pos hw]
  by_cases h0 : cs.length = 0
  · obtain rfl : cs = [] := List.eq_nil_of_length_eq_zero h0
    have hrun := run_copy_none (P := P) w dT sT o.type elem dp sp dLen dCap sLen sCap hu hsz (by simpa using hn.symm)
    unfold Oper.wp
    simp [execOp, ho, resolve, invoke, builtin, hd, hs, hrun, Result.andThen]
    exact h w (show _ = _ by simpa using hg) ⟨rfl, rfl, rfl, Nat.le_refl _, fun _ _ _ => rfl⟩
  · obtain ⟨rfl, ad, rfl, hsrc⟩ := hpos (by omega)
    have hrun := run_copy_row (P := P) w dT sT o.type elem g off dLen dCap ad sLen sCap cur.toArray t cs hu hsz hg hn hsrc (by simpa using hfit) h1
    unfold Oper.wp
    simp [execOp, ho, resolve, invoke, builtin, hd, hs, hrun, Result.andThen]
    refine h _ (show _ = _ by simpa using setRow_heap w g _ _ t _ hg) ⟨rfl, rfl, rfl, by simp [World.setRow], fun k _ hk => setRow_other w g k _ fun e => hk (by rw [e])⟩
theorem step_copy_none {P : Program} {ops : Array Oper} {o : Oper} {a : Act} {w : World} {K : Act → World → Prop} {Q : Exit → Act → World → Prop} {E : Prop} (hgd : o.guard = none) (d s : Operand) (dT sT : TypeId)
    (ho : o.op = .call { callee := .builtin .copy, args := #[d, s], argTypes := #[dT, sT] }) (elem : TypeId) (hu : P.underlying dT = some (.slice elem)) (hsz : (P.info? elem).map (·.size) = some 1)
    (dp sp : Option Addr) (dLen dCap sLen sCap : Nat) (hd : a.eval d = .slice dp dLen dCap) (hs : a.eval s = .slice sp sLen sCap) (hn : Nat.min sLen dLen = 0) (h : K (a.put o.dst (goInt 0)) w) :
    if Region.wanted o (yielded ops a.tmps) = true then Oper.wp P o a w K Q else E := by
  have hw : Region.wanted o (yielded ops a.tmps) = true := by simp [Region.wanted, hgd]
  rw [if_pos hw]
  have hrun := run_copy_none (P := P) w dT sT o.type elem dp sp dLen dCap sLen sCap hu hsz hn
  unfold Oper.wp
  simp [execOp, ho, resolve, invoke, builtin, hd, hs, hrun, Result.andThen]
  exact h
theorem size5 : (Try.prog.info? 5).map (·.size) = some 1 := by
  obtain ⟨i0, hi, hzz⟩ := Option.map_eq_some_iff.1 info5
  simp only [Prod.mk.injEq] at hzz
  rw [hi]; simp [hzz.2.1]
theorem nums_min {all : List Int} {at_ : Nat} (h : at_ ≤ all.length) : (nums .u8 (all.drop at_)).length = Nat.min (all.length - at_) all.length := by
  rw [nums_length, List.length_drop]; exact (Nat.min_eq_left (Nat.sub_le _ _)).symm
theorem nums_fit {all : List Int} {at_ k1 : Nat} {cur : Array Value} (h : at_ ≤ all.length) (hn : all.length ≤ k1) (hc : cur.size = k1) : 0 + (nums .u8 (all.drop at_)).length ≤ cur.toList.length := by
  have e := Array.length_toList (xs := cur)
  rw [nums_length, List.length_drop]; omega
theorem nums_one {xs : List Int} : ∀ v ∈ nums .u8 xs, v.oneCell' = true := fun v hv => by
  obtain ⟨x, _, rfl⟩ := List.mem_map.1 hv; rfl
theorem nums_cells {w : World} {A' : Option Addr} {n : Nat} {xs : List Int} (h : ReadsInt w .u8 A' n xs) (hp : 0 < (nums .u8 xs).length) : ∃ ad, A' = some ad ∧ ∀ j v, (nums .u8 xs)[j]? = some v → w.cell? (ad.add j) = some v := by
  rw [nums_length, h.1] at hp
  obtain ⟨ad, e, hc⟩ := h.2.2 hp
  refine ⟨ad, e, fun j v hv => ?_⟩
  have hj : j < xs.length := by
    have := (List.getElem?_eq_some_iff.1 hv).1
    rwa [nums_length] at this
  rw [hc j (by rw [h.1] at hj; exact hj)]
  rw [← hv]
  simp [nums, List.getD_eq_getElem?_getD, List.getElem?_eq_getElem hj]
theorem R_str_move {w w1 : World} {base base' : Nat} {v : Value} {xs : List ByteArray} (h : Kd.R Kd.string 9 w base (fun _ => True) v xs) (hm : ∀ k, v.ownBlock = some k → (∃ cs, w.heap[k]? = some (.cells cs 9 (0, 0))) → w1.heap[k]? = w.heap[k]?) : Kd.R Kd.string 9 w1 base (fun _ => True) v xs :=
  Kd.R_of_own (own_move (Kd.own_of_R h) fun k hk => hm k hk (own_typed (Kd.own_of_R h) k hk)) (fun _ _ => trivial)
theorem ne_of_types {w : World} {a b : Nat} {cs ds : Array Value} {s t : TypeId} (h : w.heap[a]? = some (.cells cs s (0, 0))) (k : w.heap[b]? = some (.cells ds t (0, 0))) (ht : s ≠ t) : a ≠ b := fun e => by
  subst e; rw [h] at k; injection k with k; injection k with _ k; exact ht k
/-- The tail of the kept bytes moved to the front of their own row, and the reader's slice cut. -/
theorem after_copy {w0 w w3 w4 : World} {g kb at_ k1 : Nat} {all : List Int} {cur : Array Value} {u4 : Value} {acc : List ByteArray} (hge : w0.heap.size ≤ g)
    (hb : w3.heap[g]? = some (.cells #[.slice (some ⟨kb, 0, none⟩) all.length k1, .bool false] 72 (0, 0))) (hkb : w0.heap.size ≤ kb) (hcur : w3.heap[kb]? = some (.cells cur 5 (0, 0))) (hcs : cur.size = k1) (hcm : k1 ≤ maxLen) (hnc : all.length ≤ k1) (hat : at_ ≤ all.length)
    (hk4 : w4.heap[kb]? = some (.cells (cur.toList.take 0 ++ (nums .u8 (all.drop at_) ++ cur.toList.drop (0 + (nums .u8 (all.drop at_)).length))).toArray 5 (0, 0))) (hg4 : w3.drew.grownBy w4 (some kb))
    (hW : Below w0.heap.size w0 w3) (hT : KT w w3 g) (hR : Kd.R Kd.string 9 w3 w.heap.size (fun _ => True) u4 acc) :
    Kd.R Kd.string 9 (w4.setCell ⟨g, 0, none⟩ (.slice (some ⟨kb, 0, none⟩) (all.length - at_) k1)) w.heap.size (fun _ => True) u4 acc ∧ St w0 (w4.setCell ⟨g, 0, none⟩ (.slice (some ⟨kb, 0, none⟩) (all.length - at_) k1)) g (all.drop at_) false ∧ Below w0.heap.size w0 (w4.setCell ⟨g, 0, none⟩ (.slice (some ⟨kb, 0, none⟩) (all.length - at_) k1)) ∧ KT w (w4.setCell ⟨g, 0, none⟩ (.slice (some ⟨kb, 0, none⟩) (all.length - at_) k1)) g := by
  have hgk : g ≠ kb := ne_of_types hb hcur (by decide)
  have hb4 : w4.heap[g]? = some (.cells #[.slice (some ⟨kb, 0, none⟩) all.length k1, .bool false] 72 (0, 0)) := (hg4.block g (blk_lt hb) (by simpa using hgk)).trans hb
  have hW4 : Below w0.heap.size w0 w4 := hW.grown (w' := w4) (row := some kb) ⟨hg4.os, hg4.tape, hg4.output, hg4.size, hg4.block⟩ hW.size (fun k hk => by injection hk with hk; omega)
  have hl : (all.drop at_).length = all.length - at_ := List.length_drop
  refine ⟨R_str_move (base' := 0) hR fun k hk ⟨cs, hc⟩ => ?_, ⟨hge, _, blk_put hb4 0 _ rfl, ?_⟩, below_set hW4 hge, KT.set_ ⟨Nat.le_trans hT.1 hg4.size, fun i hi hig ht => ?_⟩ 0 _⟩
  · rw [Below.heap_setCell w4 ⟨g, 0, none⟩ _ k (ne_of_types hc hb (by decide))]
    exact hg4.block k (blk_lt hc) fun e => by injection e with e; exact ne_of_types hc hcur (by decide) e
  · rw [hl]
    refine ⟨by simp [nums], .inr ⟨kb, k1, _, rfl, hkb, (Below.heap_setCell w4 ⟨g, 0, none⟩ _ kb (Ne.symm hgk)).trans hk4, by omega, hcm, ?_, ?_⟩⟩
    · simp [nums]; omega
    · rw [← hl]; simp [nums]
  · refine (hg4.block i (Nat.lt_of_lt_of_le hi hT.1) fun e => ?_).trans (hT.2 i hi hig ht)
    injection e with e
    subst e
    exact ht cur ((hT.2 i hi hig ht).symm.trans hcur)
theorem or32_range (x y : Int) : 0 ≤ Go.bits .or .u32 x y ∧ Go.bits .or .u32 x y < 4294967296 := by
  unfold Go.bits
  have hs : IntKind.u32.signed = false := rfl
  have e : (2 : Int) ^ IntKind.u32.bits = 4294967296 := rfl
  simp only [IntKind.wrap, hs, e, Bool.false_and, Bool.false_eq_true, if_false]
  omega
theorem be4_range (a b c d : Int) : 0 ≤ be4 a b c d ∧ be4 a b c d < 4294967296 := or32_range _ _
theorem after_nil {w0 w w3 : World} {g : Nat} {f : Bool} {v u4 : Value} {acc : List ByteArray} (hge : w0.heap.size ≤ g) (hb : w3.heap[g]? = some (.cells #[v, .bool f] 72 (0, 0)))
    (hW : Below w0.heap.size w0 w3) (hT : KT w w3 g) (hR : Kd.R Kd.string 9 w3 w.heap.size (fun _ => True) u4 acc) :
    Kd.R Kd.string 9 (w3.setCell ⟨g, 0, none⟩ (.slice none 0 0)).drew w.heap.size (fun _ => True) u4 acc ∧ St w0 (w3.setCell ⟨g, 0, none⟩ (.slice none 0 0)).drew g [] f ∧ Below w0.heap.size w0 (w3.setCell ⟨g, 0, none⟩ (.slice none 0 0)).drew ∧ KT w (w3.setCell ⟨g, 0, none⟩ (.slice none 0 0)).drew g :=
  ⟨R_str_move (base' := 0) hR fun k hk ⟨cs, hc⟩ => Below.heap_setCell w3 ⟨g, 0, none⟩ _ k (ne_of_types hc hb (by decide)), ⟨hge, _, blk_put hb 0 _ rfl, own_nil _ _ _ _⟩, pw_below_drewN (below_set hW hge) 1, hT.set_ 0 _⟩
theorem after_bad {w0 w w3 : World} {g : Nat} {f : Bool} {v u4 : Value} {acc : List ByteArray} (hge : w0.heap.size ≤ g) (hb : w3.heap[g]? = some (.cells #[v, .bool f] 72 (0, 0)))
    (hW : Below w0.heap.size w0 w3) (hT : KT w w3 g) (hR : Kd.R Kd.string 9 w3 w.heap.size (fun _ => True) u4 acc) :
    Kd.R Kd.string 9 ((w3.setCell ⟨g, 0, none⟩ (.slice none 0 0)).setCell ⟨g, 1, none⟩ (.bool true)) w.heap.size (fun _ => True) u4 acc ∧ St w0 ((w3.setCell ⟨g, 0, none⟩ (.slice none 0 0)).setCell ⟨g, 1, none⟩ (.bool true)) g [] true ∧ Below w0.heap.size w0 ((w3.setCell ⟨g, 0, none⟩ (.slice none 0 0)).setCell ⟨g, 1, none⟩ (.bool true)) ∧ KT w ((w3.setCell ⟨g, 0, none⟩ (.slice none 0 0)).setCell ⟨g, 1, none⟩ (.bool true)) g := by
  have hb1 : (w3.setCell ⟨g, 0, none⟩ (.slice none 0 0)).heap[g]? = some (.cells #[.slice none 0 0, .bool f] 72 (0, 0)) := blk_put hb 0 _ rfl
  refine ⟨R_str_move (base' := 0) hR fun k hk ⟨cs, hc⟩ => ?_, ⟨hge, _, blk_put hb1 1 _ rfl, own_nil _ _ _ _⟩, below_set (below_set hW hge) hge, (hT.set_ 0 _).set_ 1 _⟩
  rw [Below.heap_setCell _ ⟨g, 1, none⟩ _ k (ne_of_types hc hb (by decide))]
  exact Below.heap_setCell w3 ⟨g, 0, none⟩ _ k (ne_of_types hc hb (by decide))
/-- A body was appended to the call's own row of bodies. -/
theorem after_append {w0 w W w1 : World} {g k1 : Nat} {A1 : Option Addr} {all : List Int} {u4 : Value} {acc : List ByteArray} (hw : w0.heap.size ≤ w.heap.size)
    (hb : W.heap[g]? = some (.cells #[.slice A1 all.length k1, .bool false] 72 (0, 0))) (ho : W.ownsRow w0.heap.size 5 1 (.slice A1 all.length k1) all.length (nums .u8 all))
    (hW : Below w0.heap.size w0 W) (hT : KT w W g) (hR : Kd.R Kd.string 9 W w.heap.size (fun _ => True) u4 acc) (hg : W.grownBy w1 u4.ownBlock) :
    w1.heap[g]? = some (.cells #[.slice A1 all.length k1, .bool false] 72 (0, 0)) ∧ w1.ownsRow w0.heap.size 5 1 (.slice A1 all.length k1) all.length (nums .u8 all) ∧ Below w0.heap.size w0 w1 ∧ KT w w1 g := by
  have hr := Kd.own_of_R hR
  have hge : ∀ k, u4.ownBlock = some k → w.heap.size ≤ k := fun k hk => own_base hr k hk
  have hty : ∀ k cs t, u4.ownBlock = some k → W.heap[k]? = some (.cells cs t (0, 0)) → t = 9 := fun k cs t hk hc => by
    obtain ⟨c', hc'⟩ := own_typed hr k hk
    rw [hc] at hc'; injection hc' with hc'; injection hc'
  refine ⟨(hg.block g (blk_lt hb) fun e => absurd (hty g _ _ e.symm hb) (by decide)).trans hb, own_move ho fun k hk => ?_, hW.grown hg hW.size fun k hk => Nat.le_trans hw (hge k hk), Nat.le_trans hT.1 hg.size, fun i hi hig ht => ?_⟩
  · obtain ⟨cs, hc⟩ := own_typed ho k hk
    exact hg.block k (blk_lt hc) fun e => absurd (hty k _ _ e.symm hc) (by decide)
  · refine (hg.block i (Nat.lt_of_lt_of_le hi hT.1) fun e => ?_).trans (hT.2 i hi hig ht)
    have := hge i e.symm
    omega
theorem cut_string {A1 : Option Addr} {k1 at_ l : Nat} {all : List Int} {wr : World} (hrd : ReadsInt wr .u8 A1 all.length all) (hnc : all.length ≤ k1) (h : at_ + 4 + l ≤ all.length) :
    ∃ A2, (∀ W : World, (Instr.slice 23 (.slice A1 all.length k1) (some (.int .i64 ((at_ : Int) + 4))) (some (.int .i64 ((at_ : Int) + 4 + (l : Int)))) none).run Try.prog W = .ok (.slice A2 l (k1 - (at_ + 4))) W) ∧
      ∀ n, (convert 23 9 (.slice A2 l (k1 - (at_ + 4)))).run Try.prog (wr.drewN n) = .ok (.string (strOfNums ((all.drop (at_ + 4)).take l))) (wr.drewN n) := by
  obtain ⟨i0, i5, hzz⟩ := Option.map_eq_some_iff.1 info5
  simp only [Prod.mk.injEq] at hzz
  obtain ⟨_, z5, _⟩ := hzz
  have hel : Try.prog.elem 23 = 5 := by simp [Program.elem, Try.underlying23]
  refine ⟨if k1 = at_ + 4 then A1 else A1.map (·.add (at_ + 4)), fun W => ?_, fun n => ?_⟩
  · rw [run_slice_lh W 23 A1 all.length k1 (by rw [hel]; exact Try.underlying23) .i64 .i64 _ _ (by omega) (by omega) (by omega)]
    have e1 : ((at_ : Int) + 4).toNat = at_ + 4 := by omega
    have e2 : ((at_ : Int) + 4 + (l : Int)).toNat = at_ + 4 + l := by omega
    have e3 : at_ + 4 + l - (at_ + 4) = l := by omega
    simp [sizeOf, typeInfo, hel, i5, z5, sliced, Result.andThen, e1, e2, e3]
  · have := (hrd.drop_ (at_ + 4) (by omega) hnc).take_ l (by omega)
    exact string_of_reads Try.underlying23 Try.underlying5 Try.underlying9 (this.drewN n)
theorem info9 : (Try.prog.info? 9).map (fun i => (i.zero, i.size, i.bytes)) = some (some (.string ⟨#[]⟩), 1, 16) := by kernel_rfl
theorem conv_run {P : Program} {w : World} {o : Oper} {a : Act} {x : Operand} {s t : TypeId} {v y : Value} (ho : o.op = .convert s t x) (hx : a.eval x = v) (h : (convert s t v).run P w = .ok y w) : (execOp a.eval o).run P w = .ok (.value y) w := by
  simp [execOp, ho, hx, h, Result.andThen]
theorem cut_run {P : Program} {w : World} {o : Oper} {a : Act} {x lo hi : Operand} {t : TypeId} {v l h_ y : Value} (ho : o.op = .slice t x (some lo) (some hi) none) (hx : a.eval x = v) (hl : a.eval lo = l) (hh : a.eval hi = h_) (ht : P.underlying t = some (.slice (P.elem t)))
    (h : (Instr.slice t v (some l) (some h_) none).run P w = .ok y w) : (execOp a.eval o).run P w = .ok (.value y) w := by
  simp [execOp, ho, hx, hl, hh, run_sliceAt_slice, ht, h, Result.andThen]
theorem elem23 : Try.prog.underlying 23 = some (.slice (Try.prog.elem 23)) := by
  have hel : Try.prog.elem 23 = 5 := by simp [Program.elem, Try.underlying23]
  rw [hel]; exact Try.underlying23
end Go.Proofs.Ytmfbmagbpceomaa.Wire
