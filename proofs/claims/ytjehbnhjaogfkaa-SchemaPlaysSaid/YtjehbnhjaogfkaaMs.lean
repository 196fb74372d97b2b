/- Ms: the texts Sc77, Sc78, Sc79, one behind the other. -/
import Derived.Test.YtjehbnhjaogfkaaMa
import Derived.Test.YtjehbnhjaogfkaaWTab
import Derived.Test.YtjehbnhjaogfkaaMr
section
namespace Go.Proofs.Ytjehbnhjaogfkaa.Sc
open Go.RowKit Go.Lib Go.Maps Go.WideAt Go.WideShapes Go.Proofs.YtjehbnhjaogfkaaW.PrintWords Go.Proofs.YtjehbnhjaogfkaaW.PrintLast Go.Proofs.YtjehbnhjaogfkaaW.PrintMore
open Go.Proofs.Ytjehbnhjaogfkaa
set_option linter.unusedVariables false
set_option linter.unusedSimpArgs false
/-- A row of bytes of the call's own. -/
def OB (base : Nat) (W : World) (v : Value) (bs : List UInt8) : Prop := W.ownsRow base 5 1 v bs.length (bv bs)
/-- What the appends leave: all that lies below, and all but rows of bytes. -/
structure FB (base : Nat) (w W : World) : Prop where
  os : W.os = w.os
  tape : W.tape = w.tape
  output : W.output = w.output
  size : w.heap.size ≤ W.heap.size
  low : ∀ i, i < base → i < w.heap.size → W.heap[i]? = w.heap[i]?
  blk : ∀ i, i < w.heap.size → (∀ cs, w.heap[i]? ≠ some (.cells cs 5 (0, 0))) → W.heap[i]? = w.heap[i]?
theorem FB.refl (base : Nat) (w : World) : FB base w w := ⟨rfl, rfl, rfl, Nat.le_refl _, fun _ _ _ => rfl, fun _ _ _ => rfl⟩
theorem FB.trans {base : Nat} {a b c : World} (h : FB base a b) (k : FB base b c) : FB base a c :=
  ⟨k.os.trans h.os, k.tape.trans h.tape, k.output.trans h.output, Nat.le_trans h.size k.size, fun i hb hi => (k.low i hb (Nat.lt_of_lt_of_le hi h.size)).trans (h.low i hb hi), fun i hi ht => (k.blk i (Nat.lt_of_lt_of_le hi h.size) (by rw [h.blk i hi ht]; exact ht)).trans (h.blk i hi ht)⟩
theorem FB.of_below {base : Nat} {a b : World} (h : Below a.heap.size a b) : FB base a b := ⟨h.os, h.tape, h.output, h.size, fun i _ hi => h.block i hi, fun i hi _ => h.block i hi⟩
theorem FB.cells {base : Nat} {w W : World} {i e : Nat} (h : FB base w W) {cs : Array Value} (hi : w.heap[i]? = some (.cells cs e (0, 0))) (he : e ≠ 5) : W.heap[i]? = some (.cells cs e (0, 0)) :=
  (h.blk i (blk_lt hi) fun c' hc' => by rw [hc'] at hi; injection hi with hi; injection hi with _ hi; exact he hi.symm).trans hi
theorem FB.below {base : Nat} {w0 a b : World} (h : FB base a b) (hb : Below base w0 a) (hs : base ≤ a.heap.size) : Below base w0 b :=
  ⟨h.os.trans hb.os, h.tape.trans hb.tape, h.output.trans hb.output, Nat.le_trans hb.size h.size, fun k hk => (h.low k hk (Nat.lt_of_lt_of_le hk hs)).trans (hb.block k hk)⟩
theorem FB.grown {base : Nat} {w w1 : World} {v : Value} {bs : List UInt8} (ho : OB base w v bs) (hg : w.grownBy w1 v.ownBlock) : FB base w w1 :=
  ⟨hg.os, hg.tape, hg.output, hg.size, fun i hi hl => hg.block i hl fun e => by have := own_base ho i e.symm; omega, fun i hl ht => hg.block i hl fun e => by
    obtain ⟨cs, hc⟩ := own_typed ho i e.symm
    exact ht cs hc⟩
theorem OB.below {base : Nat} {w w1 : World} {v : Value} {bs : List UInt8} (h : OB base w v bs) (hb : Below w.heap.size w w1) : OB base w1 v bs := pw_own_below h hb
theorem le_mod : ∀ (k : Nat) (n : Int), le k (n % (256 ^ k : Nat)) = le k n
  | 0, _ => rfl
  | k + 1, n => by
    have e1 : (n % ((256 ^ (k + 1) : Nat) : Int)) % 256 = n % 256 := by
      rw [Nat.pow_succ, Int.natCast_mul]
      exact Int.emod_emod_of_dvd n ⟨((256 ^ k : Nat) : Int), by rw [Int.mul_comm]; rfl⟩
    have e2 : (n % ((256 ^ (k + 1) : Nat) : Int)) / 256 = (n / 256) % ((256 ^ k : Nat) : Int) := by
      have hp : (0 : Int) < ((256 ^ k : Nat) : Int) := by have := Nat.pow_pos (n := k) (show 0 < 256 by decide); omega
      have h1 : ((256 ^ (k + 1) : Nat) : Int) = 256 * ((256 ^ k : Nat) : Int) := by rw [Nat.pow_succ, Int.natCast_mul, Int.mul_comm]; rfl
      rw [h1]
      have a1 := Int.emod_add_mul_ediv (n / 256) ((256 ^ k : Nat) : Int)
      have a2 := Int.emod_add_mul_ediv n 256
      have a3 := Int.emod_nonneg (n / 256) (Int.ne_of_gt hp)
      have a4 := Int.emod_lt_of_pos (n / 256) hp
      have a5 := Int.emod_nonneg n (show (256 : Int) ≠ 0 by decide)
      have a6 := Int.emod_lt_of_pos n (show (0 : Int) < 256 by decide)
      generalize ((256 ^ k : Nat) : Int) = P at *
      have h2 : n = (256 * ((n / 256) % P) + n % 256) + (256 * P) * (n / 256 / P) := by
        have : 256 * (P * (n / 256 / P)) = (256 * P) * (n / 256 / P) := by rw [Int.mul_assoc]
        rw [← this]
        generalize P * (n / 256 / P) = z at *
        omega
      have h3 : n % (256 * P) = 256 * ((n / 256) % P) + n % 256 := by
        conv => lhs; rw [h2]
        rw [Int.add_mul_emod_self_left, Int.emod_eq_of_lt (by omega) (by omega)]
      rw [h3]
      omega
    rw [le_succ, le_succ, e1, e2, le_mod k (n / 256)]
set_option maxRecDepth 100000 in
set_option maxHeartbeats 2000000 in
theorem dnumber_walk (base : Nat) (W : World) (v : Value) (bs : List UInt8) (n : Int) (h : OB base W v bs) (hbase : base ≤ W.heap.size) (hl : bs.length ≤ 1000000000) (hn : -9223372036854775808 ≤ n ∧ n ≤ 9223372036854775807) :
    Calls Try.prog 63 #[v, .int .i64 n] W fun e W' => ∃ v', e = .returned v' ∧ OB base W' v' (bs ++ num8 n) ∧ FB base W W' := by
  have H0 := Aside0.mk h
  obtain ⟨u, hu⟩ : ∃ u, n % 18446744073709551616 = u := ⟨_, rfl⟩
  have hu0 : 0 ≤ u ∧ u < 18446744073709551616 := by omega
  have HN := Aside0.mk (show le 8 u = num8 n from by rw [← hu]; exact le_mod 8 n)
  clear h hn
  have HU := Aside0.mk hu0
  go_enter Try.func63, Try.ntmps63
  go_wp2_with fail
  rw [show IntKind.u64.wrap n = u from by rw [← hu]; rfl]
  clear hu hu0
  go_loopg [0, 5, 6] 9 (fun kq v0 v5 v6 w' => ∃ (i : Nat) (m : Int) (pre : List UInt8), v6 = .int .i64 (i : Int) ∧ v5 = .int .u64 m ∧ Aside0 (i + kq = 9 ∧ i ≤ 8 ∧ 0 ≤ m ∧ m < 18446744073709551616) ∧ Aside0 (pre ++ le (8 - i) m = bs ++ num8 n ∧ pre.length = bs.length + i) ∧ Aside0 (OB base w' v0 pre) ∧ Aside0 (FB base W w'))
  case atStart => exact ⟨0, u, bs, rfl, rfl, ⟨by omega, by omega, HU.out⟩, ⟨by rw [← HN.out], rfl⟩, H0, ⟨FB.refl _ _⟩⟩
  case round =>
    obtain ⟨i, m, pre, rfl, rfl, HJ, HP, HWr, HK⟩ := hrel
    by_cases hj : i < 8
    · obtain ⟨kq1, rfl⟩ : ∃ kq1, gk = kq1 + 1 := ⟨gk - 1, by have := HJ.out; omega⟩
      have hji : (i : Int) < 8 := by omega
      have hm0 : 0 ≤ m := HJ.out.2.2.1
      have hm1 : m < 18446744073709551616 := HJ.out.2.2.2
      clear hj
      go_wp2_with ((with_reducible refine gate_builtin (b := .append) (xs := #[.tmp 13, .tmp 17]) rfl ?_); at_builtin; refine print_append_cells (w0 := wr) base rfl (.tmp 13) (.tmp 17) 74 5 (.int .u8 0) 1 1 rfl Try.underlying74 info5 rfl (by decide) (by decide) _ pre.length (bv pre) [.int .u8 (m % 256)] rfl rfl rfl (by simp [Value.oneCell']) HWr.out (Below.refl _ _) (Nat.le_trans hbase HK.out.size) (by have := HP.out.2; omega) ?_; intro v1 w1 ho1 hb1 hg1 hat1; have HO1 := Aside0.mk ho1; have HB1 := Aside0.mk (HK.out.trans (FB.grown HWr.out hg1)); clear ho1 hb1 hg1 hat1)
      go_roundg kq1
      case measure => have := HJ.out; omega
      case rel =>
        have hJ := HJ.out
        have hP := HP.out
        have hO := HO1.out
        have hbv : bv pre ++ [Value.int .u8 (m % 256)] = bv (pre ++ [UInt8.ofNat (m % 256).toNat]) := by rw [bv_app, byte_val]; rfl
        have hlen : pre.length + 1 = (pre ++ [UInt8.ofNat (m % 256).toNat]).length := by simp
        rw [hbv, hlen] at hO
        refine ⟨i + 1, m / 256, pre ++ [UInt8.ofNat (m % 256).toNat], by go_num, rfl, ⟨by omega, by omega, by omega, by omega⟩, ⟨?_, by rw [← hlen]; omega⟩, ⟨hO⟩, HB1⟩
        rw [← hP.1, show 8 - i = (8 - (i + 1)) + 1 by omega, le_succ, List.append_assoc]; rfl
    · have hji : ¬ (i : Int) < 8 := by omega
      have hJ := HJ.out
      have hP := HP.out
      obtain rfl : i = 8 := by omega
      rw [show 8 - 8 = 0 by rfl, le_zero, List.append_nil] at hP
      have HQ := Aside0.mk (hP.1 ▸ HWr.out : OB base wr _ (bs ++ num8 n))
      go_wp2_with fail
      go_ret
      exact ⟨_, rfl, HQ.out, HK.out⟩
set_option maxRecDepth 100000 in
set_option maxHeartbeats 2000000 in
theorem dtext_walk (base : Nat) (W : World) (v : Value) (bs : List UInt8) (s : ByteArray) (h : OB base W v bs) (hbase : base ≤ W.heap.size) (hl : bs.length ≤ 100000000) (hs : s.size ≤ 100000000) :
    Calls Try.prog 64 #[v, .string s] W fun e W' => ∃ v', e = .returned v' ∧ OB base W' v' (bs ++ txt s) ∧ FB base W W' := by
  have H0 := Aside0.mk h
  obtain ⟨b1, hb1⟩ : ∃ b1, b1 = bs ++ num8 s.size := ⟨_, rfl⟩
  have hn8 : b1.length = bs.length + 8 := by rw [hb1, List.length_append]; unfold num8; rw [le_len]
  have HB1 := Aside0.mk hb1
  have HN8 := Aside0.mk hn8
  clear h hn8 hb1
  go_enter Try.func64, Try.ntmps64
  go_wp2_with (first
    | (go_at_call 63; refine (dnumber_walk base _ v bs _ H0.out hbase (by omega) (by omega)).mono ?_; rintro e w1 ⟨v1, rfl, h1, hk1⟩; rw [← HB1.out] at h1; have H1 := Aside0.mk h1; have K1 := Aside0.mk hk1; clear h1 hk1)
    | ((with_reducible refine gate_builtin (b := .append) (xs := #[.tmp 8, .tmp 9]) rfl ?_); at_builtin; obtain ⟨i0, hi, hzz⟩ := Option.map_eq_some_iff.1 info5; simp only [Prod.mk.injEq] at hzz; refine wpList_append_own_string w1 rfl (.tmp 8) (.tmp 9) 74 9 rfl base 5 i0 Try.underlying74 Try.underlying9 hi hzz.1 hzz.2.1 hzz.2.2 _ _ _ rfl H1.out s rfl (by rw [HN8.out]; unfold maxLen; omega) (by rw [HN8.out]; omega) (Nat.le_trans hbase K1.out.size) ?_; clear hi hzz; intro v2 w3 ho1 hg1 hz1; have HO1 := Aside0.mk ho1; have HG1 := Aside0.mk (K1.out.trans (FB.grown H1.out hg1)); clear ho1 hg1 hz1))
  have ho1 := HO1.out
  have e1 : b1.length + s.size = (b1 ++ s.data.toList).length := by rw [List.length_append]; rfl
  rw [bv_str, ← bv_app, e1] at ho1
  have e2 : b1 ++ s.data.toList = bs ++ txt s := by rw [HB1.out]; unfold txt; rw [List.append_assoc]
  rw [e2] at ho1
  go_ret
  exact ⟨_, rfl, ho1, HG1.out⟩
end Go.Proofs.Ytjehbnhjaogfkaa.Sc
end

section
namespace Go.Proofs.Ytjehbnhjaogfkaa.Sc
open Go.RowKit Go.Lib Go.Maps Go.WideAt Go.WideShapes Go.Proofs.YtjehbnhjaogfkaaW.PrintWords Go.Proofs.YtjehbnhjaogfkaaW.PrintLast Go.Proofs.YtjehbnhjaogfkaaW.PrintMore
open Go.Proofs.Ytjehbnhjaogfkaa
set_option linter.unusedVariables false
set_option linter.unusedSimpArgs false
def T44_1 : Bool × List (List Nat × List Nat) := (true, [([], []), ([], []), ([1], [1]), ([0, 2], [0, 2]), ([], []), ([4], [4]), ([5], [5]), ([3, 6, 3], [3, 6]), ([7, 7, 0, 1, 2, 3, 4, 5, 6, 7], [0, 7])])
theorem t44_1 : Go.Proofs.YtjehbnhjaogfkaaW.PrintLast.rtab .any (opsOf Try.f44 1) = T44_1 := by kernel_rfl
theorem b44_1 : waitsOk T44_1.2 [0, 0, 2, 7, 0, 16, 48, 127, 255] = true := by kernel_rfl
def T44_5 : Bool × List (List Nat × List Nat) := (true, [([], []), ([], []), ([1], [1]), ([], []), ([2, 3], [2, 3]), ([4], [4]), ([5], [5]), ([0, 6], [0, 6]), ([], []), ([8], [8]), ([], []), ([9, 10], [9, 10]), ([11], [11]), ([12], [12]), ([7, 13, 7], [7, 13]), ([14, 14, 0, 1, 2, 3, 4, 5, 6, 7, 8, 9, 10, 11, 12, 13, 14], [0, 14])])
theorem t44_5 : Go.Proofs.YtjehbnhjaogfkaaW.PrintLast.rtab .any (opsOf Try.f44 5) = T44_5 := by kernel_rfl
theorem b44_5 : waitsOk T44_5.2 [0, 0, 2, 0, 14, 30, 62, 127, 0, 256, 0, 1792, 3840, 7936, 16383, 32767] = true := by kernel_rfl
theorem t44_6 : Go.Proofs.YtjehbnhjaogfkaaW.PrintLast.rtab .any (opsOf Try.f44 6) = T44_1 := by kernel_rfl
theorem t44_11 : Go.Proofs.YtjehbnhjaogfkaaW.PrintLast.rtab .any (opsOf Try.f44 11) = T44_1 := by kernel_rfl
/-- What stands while a schema is written: its box, the row of bytes. -/
structure SE (W0 W w : World) (g : Nat) (bx : Array Value) (v : Value) (pre : List UInt8) : Prop where
  bx : w.heap[g]? = some (.cells bx 30 (0, 0))
  ob : OB W0.heap.size w v pre
  fr : FB W0.heap.size W w
  be : Below W0.heap.size W0 w
theorem SE.step {W0 W w w1 : World} {g : Nat} {bx : Array Value} {v v1 : Value} {pre pre1 : List UInt8} (h : SE W0 W w g bx v pre) (ho : OB W0.heap.size w1 v1 pre1) (hf : FB W0.heap.size w w1) : SE W0 W w1 g bx v1 pre1 :=
  ⟨hf.cells h.bx (by decide), ho, h.fr.trans hf, hf.below h.be h.be.size⟩
theorem SE.low {W0 W w w1 : World} {g : Nat} {bx : Array Value} {v : Value} {pre : List UInt8} (h : SE W0 W w g bx v pre) (hb : Below w.heap.size w w1) : SE W0 W w1 g bx v pre :=
  h.step (h.ob.below hb) (FB.of_below hb)
theorem flatE_drop {α : Type} (enc : α → List UInt8) (l : List α) (j : Nat) (h : j < l.length) : flatE enc (l.drop j) = enc l[j] ++ flatE enc (l.drop (j + 1)) := by
  rw [List.drop_eq_getElem_cons h]
  rfl
theorem pre_le {pre rest T : List UInt8} {n : Nat} (h : pre ++ rest = T) (hT : T.length ≤ n) : pre.length ≤ n := by
  have := congrArg List.length h
  rw [List.length_append] at this
  omega
set_option maxRecDepth 100000 in
set_option maxHeartbeats 16000000 in
theorem dschema_walk (W0 W : World) (v : Value) (bs : List UInt8) (t : Tb) (A : Option Addr) (ca : Nat) (B : Option Addr) (cb : Nat) (hA : kcol.C W0 A t.cols.length t.cols) (hca : t.cols.length ≤ ca) (hB : kix.C W0 B t.ixs.length t.ixs) (hcb : t.ixs.length ≤ cb)
    (hck : chk t = true) (h : OB W0.heap.size W v bs) (hb : Below W0.heap.size W0 W) (hl : bs.length ≤ 50000000) :
    Calls Try.prog 44 #[v, .agg #[.string t.nm, .slice A t.cols.length ca, .int .i64 t.key, .slice B t.ixs.length cb]] W fun e W' => ∃ v', e = .returned v' ∧ OB W0.heap.size W' v' (bs ++ encT t) ∧ FB W0.heap.size W W' := by
  obtain ⟨sm, h5⟩ := chk_small hck
  obtain ⟨T, hT⟩ : ∃ T, bs ++ encT t = T := ⟨_, rfl⟩
  have hTl : T.length ≤ 60000000 := by rw [← hT, List.length_append]; omega
  obtain ⟨nm, cols, key, ixs⟩ := t
  have s1 := sm.nm
  have s2 := sm.key
  have s3 := sm.cl
  have s4 := sm.il
  have s5 := sm.cols
  have s6 := sm.ixs
  simp only at hA hca hB hcb s1 s2 s3 s4 s5 s6 ⊢
  rw [hT]
  have hT2 : bs ++ txt nm ++ num8 cols.length ++ (flatE encC (cols.drop 0) ++ (num8 key ++ (num8 ixs.length ++ flatE encX ixs))) = T := by
    rw [← hT]; unfold encT encL; simp only [List.append_assoc, List.drop_zero]
  have HT := Aside0.mk hT2
  have HTl := Aside0.mk hTl
  have HA := Aside0.mk hA
  have HB := Aside0.mk hB
  have HCc := Aside0.mk s5
  have HCx := Aside0.mk s6
  have HK := Aside0.mk s2
  have HNm := Aside0.mk s1
  have HBase := Aside0.mk hb.size
  obtain ⟨g, hg⟩ : ∃ g, W.heap.size = g := ⟨_, rfl⟩
  have hal := below_alloc (Below.refl W.heap.size W) (.cells #[.string nm, .slice A cols.length ca, .int .i64 key, .slice B ixs.length cb] 30)
  have HX := Aside0.mk (show SE W0 W (W.alloc (.cells #[.string nm, .slice A cols.length ca, .int .i64 key, .slice B ixs.length cb] 30)) g #[.string nm, .slice A cols.length ca, .int .i64 key, .slice B ixs.length cb] v bs from ⟨hg ▸ heap_alloc_new W _, h.below hal, FB.of_below hal, hb.trans (hal.mono hb.size)⟩)
  clear hA hB hck sm h5 hT hTl s1 s2 s5 s6 hT2 h hb hal
  go_enter Try.func44, Try.ntmps44
  go_upto_region 1 with fail
  clear hg
  generalize W.alloc (.cells #[.string nm, .slice A cols.length ca, .int .i64 key, .slice B ixs.length cb] 30) = w0 at *
  have HXd := Aside0.mk (HX.out.low (below_drew (Below.refl _ _)))
  refine start_ (n := 9) (S := fun w' => w'.cell? ⟨g, 0, none⟩ = some (.string nm) ∧ w'.cell? ⟨g, 1, none⟩ = some (.slice A cols.length ca)) (ds := []) #[false, false, false, false, false, false, false, false, false] (by kernel_rfl) rfl rfl ⟨(blk_cell HXd.out.bx 0).trans rfl, (blk_cell HXd.out.bx 1).trans rfl⟩ (fun hHeld => ?_)
  refine with_tabW t44_1 b44_1 (fun HT_ HW_ => ?_)
  clear HX
  generalize w0.drew = wd at HXd hHeld ⊢
  refine pure_ (i := 0) (N := some 10) (v := ?_) (a' := ?_) #[true, false, false, false, false, false, false, false, false] rfl rfl (any_of HT_.out (by kernel_rfl)) (fun _ _ _ h => h) (Or.inl ⟨by rfl, ?_⟩) ?_ ?_
  rotate_left
  · intro w'
    go_simp
    with_reducible rfl
  rotate_left
  · simp only [Act.put, List.setIfInBounds_toArray, List.set_cons_zero, List.set_cons_succ, i64_w, i32_w]
    rfl
  refine pure_ (i := 1) (N := some 11) (v := ?_) (a' := ?_) #[true, true, false, false, false, false, false, false, false] rfl rfl (any_of HT_.out (by kernel_rfl)) (fun _ _ _ h => h) (Or.inl ⟨by rfl, ?_⟩) ?_ ?_
  rotate_left
  · intro w'
    go_simp
    with_reducible rfl
  rotate_left
  · simp only [Act.put, List.setIfInBounds_toArray, List.set_cons_zero, List.set_cons_succ, i64_w, i32_w]
    rfl
  refine take_ (i := 2) (N := some 12) (v := ?_) (a' := ?_) #[true, true, true, false, false, false, false, false, false] rfl rfl (take_ofW HT_.out HW_.out (by kernel_rfl)) (fun _ _ _ h => h) (Or.inl ⟨by rfl, ?_⟩) hHeld ?_ ?_
  rotate_left
  · rintro w' ⟨s0, s1⟩
    go_simp
    with_reducible rfl
  rotate_left
  · simp only [Act.put, List.setIfInBounds_toArray, List.set_cons_zero, List.set_cons_succ, i64_w, i32_w]
    rfl
  refine pure_ (i := 4) (N := some 14) (v := ?_) (a' := ?_) #[true, true, true, false, true, false, false, false, false] rfl rfl (any_of HT_.out (by kernel_rfl)) (fun _ _ _ h => h) (Or.inl ⟨by rfl, ?_⟩) ?_ ?_
  rotate_left
  · intro w'
    go_simp
    with_reducible rfl
  rotate_left
  · simp only [Act.put, List.setIfInBounds_toArray, List.set_cons_zero, List.set_cons_succ, i64_w, i32_w]
    rfl
  refine take_ (i := 5) (N := some 15) (v := ?_) (a' := ?_) #[true, true, true, false, true, true, false, false, false] rfl rfl (take_ofW HT_.out HW_.out (by kernel_rfl)) (fun _ _ _ h => h) (Or.inl ⟨by rfl, ?_⟩) hHeld ?_ ?_
  rotate_left
  · rintro w' ⟨s0, s1⟩
    go_simp
    with_reducible rfl
  rotate_left
  · simp only [Act.put, List.setIfInBounds_toArray, List.set_cons_zero, List.set_cons_succ, i64_w, i32_w]
    rfl
  refine pure_ (i := 6) (N := some 16) (v := ?_) (a' := ?_) #[true, true, true, false, true, true, true, false, false] rfl rfl (any_of HT_.out (by kernel_rfl)) (fun _ _ _ h => h) (Or.inl ⟨by rfl, ?_⟩) ?_ ?_
  rotate_left
  · intro w'
    go_simp
    with_reducible rfl
  rotate_left
  · simp only [Act.put, List.setIfInBounds_toArray, List.set_cons_zero, List.set_cons_succ, i64_w, i32_w]
    rfl
  refine one_ (i := 3) (N := some 13) #[true, true, true, true, true, true, true, false, false] rfl rfl (one_of HT_.out (by kernel_rfl)) (by decide) (fun K hK => ?_)
  refine goes_ Try.func64 (by kernel_rfl) rfl #[v, .string nm] (by rfl) rfl rfl (by (try simp only [List.map_toArray, List.map_cons, List.map_nil]); first | done | rfl) ?_
  refine (dtext_walk W0.heap.size wd v bs nm HXd.out.ob HXd.out.be.size (by omega) (by have := HNm.out; omega)).mono ?_
  rintro e w1 ⟨v1, rfl, ho_, hf_⟩
  refine ⟨_, rfl, ?_⟩
  have HX0 := Aside0.mk (HXd.out.step ho_ hf_)
  clear ho_ hf_
  refine hK.out _ _ ⟨(blk_cell HX0.out.bx 0).trans rfl, (blk_cell HX0.out.bx 1).trans rfl⟩ (fun hHeld => ?_)
  clear hK K
  refine norm_ (a' := ?_) ?_ ?_
  rotate_left
  · show Act.put _ (some 13) _ = _
    simp only [Act.put, List.setIfInBounds_toArray, List.set_cons_zero, List.set_cons_succ, i64_w, i32_w]
    rfl
  refine one_ (i := 7) (N := some 17) #[true, true, true, true, true, true, true, true, false] rfl rfl (one_of HT_.out (by kernel_rfl)) (by decide) (fun K hK => ?_)
  refine goes_ Try.func63 (by kernel_rfl) rfl #[v1, .int .i64 (cols.length : Int)] (by rfl) rfl rfl (by (try simp only [List.map_toArray, List.map_cons, List.map_nil]); first | done | rfl) ?_
  refine (dnumber_walk W0.heap.size w1 v1 (bs ++ txt nm) cols.length HX0.out.ob HX0.out.be.size (by rw [List.length_append, txt_len]; have := HNm.out; omega) (by omega)).mono ?_
  rintro e w2 ⟨v2, rfl, ho_, hf_⟩
  refine ⟨_, rfl, ?_⟩
  have HX1 := Aside0.mk (HX0.out.step ho_ hf_)
  clear ho_ hf_
  refine hK.out _ _ ⟨(blk_cell HX1.out.bx 0).trans rfl, (blk_cell HX1.out.bx 1).trans rfl⟩ (fun hHeld => ?_)
  clear hK K
  refine norm_ (a' := ?_) ?_ ?_
  rotate_left
  · show Act.put _ (some 17) _ = _
    simp only [Act.put, List.setIfInBounds_toArray, List.set_cons_zero, List.set_cons_succ, i64_w, i32_w]
    rfl
  refine pure_ (i := 8) (N := some 0) (v := ?_) (a' := ?_) #[true, true, true, true, true, true, true, true, true] rfl rfl (any_of HT_.out (by kernel_rfl)) (fun _ _ _ h => h) (Or.inl ⟨by rfl, ?_⟩) ?_ ?_
  rotate_left
  · intro w'
    go_simp
    with_reducible rfl
  rotate_left
  · simp only [Act.put, List.setIfInBounds_toArray, List.set_cons_zero, List.set_cons_succ, i64_w, i32_w]
    rfl
  refine done_ (done_of HT_.out (by kernel_rfl)) ?_
  clear HT_ HW_
  obtain ⟨pre0, hp0⟩ : ∃ p, bs ++ txt nm ++ num8 cols.length = p := ⟨_, rfl⟩
  rw [hp0] at HX1 HT
  clear HXd HX0 hp0
  have p1 := (blk_cell HX1.out.bx 1).trans (show _ = some (Value.slice A cols.length ca) from rfl)
  go_wp2_with fail
  clear p1
  go_loopg [0, 5] (cols.length + 1) (fun kq v0 v5 w' => ∃ (VV : Value) (j : Nat) (pre : List UInt8), VV = v0 ∧ v5 = .int .i64 (j : Int) ∧ Aside0 (j + kq = cols.length + 1 ∧ j ≤ cols.length) ∧ Aside0 (pre ++ (flatE encC (cols.drop j) ++ (num8 key ++ (num8 ixs.length ++ flatE encX ixs))) = T) ∧ Aside0 (SE W0 W w' g #[.string nm, .slice A cols.length ca, .int .i64 key, .slice B ixs.length cb] v0 pre))
  case atStart => exact ⟨_, 0, pre0, rfl, rfl, ⟨by omega, Nat.zero_le _⟩, HT, HX1⟩
  case round =>
    clear HX1 HT
    obtain ⟨VV, j, pre, hVV, rfl, HJ, HP, HX⟩ := hrel
    subst hVV
    have p1 := (blk_cell HX.out.bx 1).trans (show _ = some (Value.slice A cols.length ca) from rfl)
    by_cases hj : j < cols.length
    · have hji : (j : Int) < (cols.length : Int) := by omega
      obtain ⟨kq1, rfl⟩ : ∃ kq1, gk = kq1 + 1 := ⟨gk - 1, by have := HJ.out.1; omega⟩
      obtain ⟨ad, rfl, x0, x1⟩ := col_at (Kd.C_below HA.out HX.out.be) j hj
      have hcx := HCc.out _ (List.getElem_mem hj)
      have hp := HP.out
      rw [flatE_drop _ _ _ hj] at hp
      obtain ⟨x, hx⟩ : ∃ x, cols[j] = x := ⟨_, rfl⟩
      rw [hx] at x0 x1 hp hcx
      obtain ⟨cn, ck⟩ := x
      unfold encC at hp
      simp only at x0 x1 hp hcx
      have hp2 : pre ++ txt cn ++ num8 ck ++ (flatE (fun c : Col => txt c.nm ++ num8 c.kd) (cols.drop (j + 1)) ++ (num8 key ++ (num8 ixs.length ++ flatE encX ixs))) = T := by rw [← hp]; simp only [List.append_assoc]
      have HP2 := Aside0.mk hp2
      have HCx2 := Aside0.mk hcx
      have HHj := Aside0.mk hj
      have y1 := far_cell x1
      have HHd := Aside0.mk (fun (w' : World) (hb' : Below W0.heap.size W0 w') => (show w'.cell? (ad.add (j * 2)) = some (.string cn) ∧ w'.cell? ⟨(ad.add (j * 2)).block, (ad.add (j * 2)).off + 1, none⟩ = some (.int .i64 ck) from by
        obtain ⟨ad', e, z0, z1⟩ := col_at (Kd.C_below HA.out hb') j hj
        obtain rfl := Option.some.inj e
        rw [hx] at z0 z1
        exact ⟨z0, far_cell z1⟩))
      clear hp hp2 hx hcx hj x1
      go_upto_region 5 with fail
      have HXd := Aside0.mk (HX.out.low (below_drew (Below.refl _ _)))
      refine start_ (n := 16) (S := fun w' => w'.cell? ⟨g, 1, none⟩ = some (.slice (some ad) cols.length ca) ∧ w'.cell? (ad.add (j * 2)) = some (.string cn) ∧ w'.cell? ⟨(ad.add (j * 2)).block, (ad.add (j * 2)).off + 1, none⟩ = some (.int .i64 ck)) (ds := []) #[false, false, false, false, false, false, false, false, false, false, false, false, false, false, false, false] (by kernel_rfl) rfl rfl ⟨(blk_cell HXd.out.bx 1).trans rfl, HHd.out _ HXd.out.be⟩ (fun hHeld => ?_)
      refine with_tabW t44_5 b44_5 (fun HT_ HW_ => ?_)
      clear HX
      generalize wr.drew = wd at HXd hHeld ⊢
      refine pure_ (i := 0) (N := some 25) (v := ?_) (a' := ?_) #[true, false, false, false, false, false, false, false, false, false, false, false, false, false, false, false] rfl rfl (any_of HT_.out (by kernel_rfl)) (fun _ _ _ h => h) (Or.inl ⟨by rfl, ?_⟩) ?_ ?_
      rotate_left
      · intro w'
        go_simp
        with_reducible rfl
      rotate_left
      · simp only [Act.put, List.setIfInBounds_toArray, List.set_cons_zero, List.set_cons_succ, i64_w, i32_w]
        rfl
      refine pure_ (i := 1) (N := some 26) (v := ?_) (a' := ?_) #[true, true, false, false, false, false, false, false, false, false, false, false, false, false, false, false] rfl rfl (any_of HT_.out (by kernel_rfl)) (fun _ _ _ h => h) (Or.inl ⟨by rfl, ?_⟩) ?_ ?_
      rotate_left
      · intro w'
        go_simp
        with_reducible rfl
      rotate_left
      · simp only [Act.put, List.setIfInBounds_toArray, List.set_cons_zero, List.set_cons_succ, i64_w, i32_w]
        rfl
      refine pure_ (i := 3) (N := some 28) (v := ?_) (a' := ?_) #[true, true, false, true, false, false, false, false, false, false, false, false, false, false, false, false] rfl rfl (any_of HT_.out (by kernel_rfl)) (fun _ _ _ h => h) (Or.inl ⟨by rfl, ?_⟩) ?_ ?_
      rotate_left
      · intro w'
        go_simp
        with_reducible rfl
      rotate_left
      · simp only [Act.put, List.setIfInBounds_toArray, List.set_cons_zero, List.set_cons_succ, i64_w, i32_w]
        rfl
      refine pure_ (i := 8) (N := some 33) (v := ?_) (a' := ?_) #[true, true, false, true, false, false, false, false, true, false, false, false, false, false, false, false] rfl rfl (any_of HT_.out (by kernel_rfl)) (fun _ _ _ h => h) (Or.inl ⟨by rfl, ?_⟩) ?_ ?_
      rotate_left
      · intro w'
        go_simp
        with_reducible rfl
      rotate_left
      · simp only [Act.put, List.setIfInBounds_toArray, List.set_cons_zero, List.set_cons_succ, i64_w, i32_w]
        rfl
      refine pure_ (i := 10) (N := some 35) (v := ?_) (a' := ?_) #[true, true, false, true, false, false, false, false, true, false, true, false, false, false, false, false] rfl rfl (any_of HT_.out (by kernel_rfl)) (fun _ _ _ h => h) (Or.inl ⟨by rfl, ?_⟩) ?_ ?_
      rotate_left
      · intro w'
        go_simp
        with_reducible rfl
      rotate_left
      · simp only [Act.put, List.setIfInBounds_toArray, List.set_cons_zero, List.set_cons_succ, i64_w, i32_w]
        rfl
      refine take_ (i := 2) (N := some 27) (v := ?_) (a' := ?_) #[true, true, true, true, false, false, false, false, true, false, true, false, false, false, false, false] rfl rfl (take_ofW HT_.out HW_.out (by kernel_rfl)) (fun _ _ _ h => h) (Or.inl ⟨by rfl, ?_⟩) hHeld ?_ ?_
      rotate_left
      · rintro w' ⟨s0, s1, s2⟩
        go_simp
        with_reducible rfl
      rotate_left
      · simp only [Act.put, List.setIfInBounds_toArray, List.set_cons_zero, List.set_cons_succ, i64_w, i32_w]
        rfl
      refine pure_ (i := 4) (N := some 29) (v := ?_) (a' := ?_) #[true, true, true, true, true, false, false, false, true, false, true, false, false, false, false, false] rfl rfl (any_of HT_.out (by kernel_rfl)) (fun _ _ _ h => h) (Or.inl ⟨by rfl, ?_⟩) ?_ ?_
      rotate_left
      · intro w'
        go_simp
        with_reducible rfl
      rotate_left
      · simp only [Act.put, List.setIfInBounds_toArray, List.set_cons_zero, List.set_cons_succ, i64_w, i32_w]
        rfl
      refine pure_ (i := 5) (N := some 30) (v := ?_) (a' := ?_) #[true, true, true, true, true, true, false, false, true, false, true, false, false, false, false, false] rfl rfl (any_of HT_.out (by kernel_rfl)) (fun _ _ _ h => h) (Or.inl ⟨by rfl, ?_⟩) ?_ ?_
      rotate_left
      · intro w'
        go_simp
        with_reducible rfl
      rotate_left
      · simp only [Act.put, List.setIfInBounds_toArray, List.set_cons_zero, List.set_cons_succ, i64_w, i32_w]
        rfl
      refine take_ (i := 6) (N := some 31) (v := ?_) (a' := ?_) #[true, true, true, true, true, true, true, false, true, false, true, false, false, false, false, false] rfl rfl (take_ofW HT_.out HW_.out (by kernel_rfl)) (fun _ _ _ h => h) (Or.inl ⟨by rfl, ?_⟩) hHeld ?_ ?_
      rotate_left
      · rintro w' ⟨s0, s1, s2⟩
        go_simp
        with_reducible rfl
      rotate_left
      · simp only [Act.put, List.setIfInBounds_toArray, List.set_cons_zero, List.set_cons_succ, i64_w, i32_w]
        rfl
      refine take_ (i := 9) (N := some 34) (v := ?_) (a' := ?_) #[true, true, true, true, true, true, true, false, true, true, true, false, false, false, false, false] rfl rfl (take_ofW HT_.out HW_.out (by kernel_rfl)) (fun _ _ _ h => h) (Or.inl ⟨by rfl, ?_⟩) hHeld ?_ ?_
      rotate_left
      · rintro w' ⟨s0, s1, s2⟩
        go_simp
        with_reducible rfl
      rotate_left
      · simp only [Act.put, List.setIfInBounds_toArray, List.set_cons_zero, List.set_cons_succ, i64_w, i32_w]
        rfl
      refine pure_ (i := 11) (N := some 36) (v := ?_) (a' := ?_) #[true, true, true, true, true, true, true, false, true, true, true, true, false, false, false, false] rfl rfl (any_of HT_.out (by kernel_rfl)) (fun _ _ _ h => h) (Or.inl ⟨by rfl, ?_⟩) ?_ ?_
      rotate_left
      · intro w'
        go_simp
        with_reducible rfl
      rotate_left
      · simp only [Act.put, List.setIfInBounds_toArray, List.set_cons_zero, List.set_cons_succ, i64_w, i32_w]
        rfl
      refine pure_ (i := 12) (N := some 37) (v := ?_) (a' := ?_) #[true, true, true, true, true, true, true, false, true, true, true, true, true, false, false, false] rfl rfl (any_of HT_.out (by kernel_rfl)) (fun _ _ _ h => h) (Or.inl ⟨by rfl, ?_⟩) ?_ ?_
      rotate_left
      · intro w'
        go_simp
        with_reducible rfl
      rotate_left
      · simp only [Act.put, List.setIfInBounds_toArray, List.set_cons_zero, List.set_cons_succ, i64_w, i32_w]
        rfl
      refine take_ (i := 13) (N := some 38) (v := ?_) (a' := ?_) #[true, true, true, true, true, true, true, false, true, true, true, true, true, true, false, false] rfl rfl (take_ofW HT_.out HW_.out (by kernel_rfl)) (fun _ _ _ h => h) (Or.inl ⟨by rfl, ?_⟩) hHeld ?_ ?_
      rotate_left
      · rintro w' ⟨s0, s1, s2⟩
        go_simp
        with_reducible rfl
      rotate_left
      · simp only [Act.put, List.setIfInBounds_toArray, List.set_cons_zero, List.set_cons_succ, i64_w, i32_w]
        rfl
      refine one_ (i := 7) (N := some 32) #[true, true, true, true, true, true, true, true, true, true, true, true, true, true, false, false] rfl rfl (one_of HT_.out (by kernel_rfl)) (by decide) (fun K hK => ?_)
      refine goes_ Try.func64 (by kernel_rfl) rfl #[VV, .string cn] (by rfl) rfl rfl (by (try simp only [List.map_toArray, List.map_cons, List.map_nil]); first | done | rfl) ?_
      refine (dtext_walk W0.heap.size wd VV pre cn HXd.out.ob HXd.out.be.size (by have h1 := pre_le (pre := pre) (rest := txt cn ++ num8 ck ++ (flatE (fun c : Col => txt c.nm ++ num8 c.kd) (cols.drop (j + 1)) ++ (num8 key ++ (num8 ixs.length ++ flatE encX ixs)))) (by rw [← HP2.out]; simp only [List.append_assoc]) HTl.out; omega) (by have := HCx2.out.1; omega)).mono ?_
      rintro e w1 ⟨v1, rfl, ho_, hf_⟩
      refine ⟨_, rfl, ?_⟩
      have HX0 := Aside0.mk (HXd.out.step ho_ hf_)
      clear ho_ hf_
      refine hK.out _ _ ⟨(blk_cell HX0.out.bx 1).trans rfl, HHd.out _ HX0.out.be⟩ (fun hHeld => ?_)
      clear hK K
      refine norm_ (a' := ?_) ?_ ?_
      rotate_left
      · show Act.put _ (some 32) _ = _
        simp only [Act.put, List.setIfInBounds_toArray, List.set_cons_zero, List.set_cons_succ, i64_w, i32_w]
        rfl
      refine one_ (i := 14) (N := some 39) #[true, true, true, true, true, true, true, true, true, true, true, true, true, true, true, false] rfl rfl (one_of HT_.out (by kernel_rfl)) (by decide) (fun K hK => ?_)
      refine goes_ Try.func63 (by kernel_rfl) rfl #[v1, .int .i64 ck] (by rfl) rfl rfl (by (try simp only [List.map_toArray, List.map_cons, List.map_nil]); first | done | rfl) ?_
      refine (dnumber_walk W0.heap.size w1 v1 (pre ++ txt cn) ck HX0.out.ob HX0.out.be.size (by have h1 := pre_le (pre := pre ++ txt cn) (rest := num8 ck ++ (flatE (fun c : Col => txt c.nm ++ num8 c.kd) (cols.drop (j + 1)) ++ (num8 key ++ (num8 ixs.length ++ flatE encX ixs)))) (by rw [← HP2.out]; simp only [List.append_assoc]) HTl.out; omega) HCx2.out.2).mono ?_
      rintro e w2 ⟨v2, rfl, ho_, hf_⟩
      refine ⟨_, rfl, ?_⟩
      have HX1 := Aside0.mk (HX0.out.step ho_ hf_)
      clear ho_ hf_
      refine hK.out _ _ ⟨(blk_cell HX1.out.bx 1).trans rfl, HHd.out _ HX1.out.be⟩ (fun hHeld => ?_)
      clear hK K
      refine norm_ (a' := ?_) ?_ ?_
      rotate_left
      · show Act.put _ (some 39) _ = _
        simp only [Act.put, List.setIfInBounds_toArray, List.set_cons_zero, List.set_cons_succ, i64_w, i32_w]
        rfl
      refine pure_ (i := 15) (N := some 0) (v := ?_) (a' := ?_) #[true, true, true, true, true, true, true, true, true, true, true, true, true, true, true, true] rfl rfl (any_of HT_.out (by kernel_rfl)) (fun _ _ _ h => h) (Or.inl ⟨by rfl, ?_⟩) ?_ ?_
      rotate_left
      · intro w'
        go_simp
        with_reducible rfl
      rotate_left
      · simp only [Act.put, List.setIfInBounds_toArray, List.set_cons_zero, List.set_cons_succ, i64_w, i32_w]
        rfl
      refine done_ (done_of HT_.out (by kernel_rfl)) ?_
      clear HT_ HW_
      clear HXd HX0 p1 x0 y1
      go_wp2_with fail
      go_roundg kq1
      case measure => have := HJ.out; omega
      case rel => exact ⟨_, j + 1, _, rfl, by go_num, ⟨by have := HJ.out; omega, by have := HHj.out; omega⟩, HP2, HX1⟩
    · have hji : ¬ (j : Int) < (cols.length : Int) := by omega
      have hp := HP.out
      rw [List.drop_of_length_le (by omega)] at hp
      have hp2 : pre ++ num8 key ++ num8 ixs.length ++ flatE encX (ixs.drop 0) = T := by rw [← hp]; simp only [flatE, List.append_assoc, List.nil_append, List.drop_zero]
      have HP2 := Aside0.mk hp2
      clear hp hp2 hj HP HJ
      go_upto_region 6 with fail
      clear p1
      have HXd := Aside0.mk (HX.out.low (below_drew (Below.refl _ _)))
      refine start_ (n := 9) (S := fun w' => w'.cell? ⟨g, 2, none⟩ = some (.int .i64 key) ∧ w'.cell? ⟨g, 3, none⟩ = some (.slice B ixs.length cb)) (ds := []) #[false, false, false, false, false, false, false, false, false] (by kernel_rfl) rfl rfl ⟨(blk_cell HXd.out.bx 2).trans rfl, (blk_cell HXd.out.bx 3).trans rfl⟩ (fun hHeld => ?_)
      refine with_tabW t44_6 b44_1 (fun HT_ HW_ => ?_)
      clear HX
      generalize wr.drew = wd at HXd hHeld ⊢
      refine pure_ (i := 0) (N := some 40) (v := ?_) (a' := ?_) #[true, false, false, false, false, false, false, false, false] rfl rfl (any_of HT_.out (by kernel_rfl)) (fun _ _ _ h => h) (Or.inl ⟨by rfl, ?_⟩) ?_ ?_
      rotate_left
      · intro w'
        go_simp
        with_reducible rfl
      rotate_left
      · simp only [Act.put, List.setIfInBounds_toArray, List.set_cons_zero, List.set_cons_succ, i64_w, i32_w]
        rfl
      refine pure_ (i := 1) (N := some 41) (v := ?_) (a' := ?_) #[true, true, false, false, false, false, false, false, false] rfl rfl (any_of HT_.out (by kernel_rfl)) (fun _ _ _ h => h) (Or.inl ⟨by rfl, ?_⟩) ?_ ?_
      rotate_left
      · intro w'
        go_simp
        with_reducible rfl
      rotate_left
      · simp only [Act.put, List.setIfInBounds_toArray, List.set_cons_zero, List.set_cons_succ, i64_w, i32_w]
        rfl
      refine take_ (i := 2) (N := some 42) (v := ?_) (a' := ?_) #[true, true, true, false, false, false, false, false, false] rfl rfl (take_ofW HT_.out HW_.out (by kernel_rfl)) (fun _ _ _ h => h) (Or.inl ⟨by rfl, ?_⟩) hHeld ?_ ?_
      rotate_left
      · rintro w' ⟨s0, s1⟩
        go_simp
        with_reducible rfl
      rotate_left
      · simp only [Act.put, List.setIfInBounds_toArray, List.set_cons_zero, List.set_cons_succ, i64_w, i32_w]
        rfl
      refine pure_ (i := 4) (N := some 44) (v := ?_) (a' := ?_) #[true, true, true, false, true, false, false, false, false] rfl rfl (any_of HT_.out (by kernel_rfl)) (fun _ _ _ h => h) (Or.inl ⟨by rfl, ?_⟩) ?_ ?_
      rotate_left
      · intro w'
        go_simp
        with_reducible rfl
      rotate_left
      · simp only [Act.put, List.setIfInBounds_toArray, List.set_cons_zero, List.set_cons_succ, i64_w, i32_w]
        rfl
      refine take_ (i := 5) (N := some 45) (v := ?_) (a' := ?_) #[true, true, true, false, true, true, false, false, false] rfl rfl (take_ofW HT_.out HW_.out (by kernel_rfl)) (fun _ _ _ h => h) (Or.inl ⟨by rfl, ?_⟩) hHeld ?_ ?_
      rotate_left
      · rintro w' ⟨s0, s1⟩
        go_simp
        with_reducible rfl
      rotate_left
      · simp only [Act.put, List.setIfInBounds_toArray, List.set_cons_zero, List.set_cons_succ, i64_w, i32_w]
        rfl
      refine pure_ (i := 6) (N := some 46) (v := ?_) (a' := ?_) #[true, true, true, false, true, true, true, false, false] rfl rfl (any_of HT_.out (by kernel_rfl)) (fun _ _ _ h => h) (Or.inl ⟨by rfl, ?_⟩) ?_ ?_
      rotate_left
      · intro w'
        go_simp
        with_reducible rfl
      rotate_left
      · simp only [Act.put, List.setIfInBounds_toArray, List.set_cons_zero, List.set_cons_succ, i64_w, i32_w]
        rfl
      refine one_ (i := 3) (N := some 43) #[true, true, true, true, true, true, true, false, false] rfl rfl (one_of HT_.out (by kernel_rfl)) (by decide) (fun K hK => ?_)
      refine goes_ Try.func63 (by kernel_rfl) rfl #[VV, .int .i64 key] (by rfl) rfl rfl (by (try simp only [List.map_toArray, List.map_cons, List.map_nil]); first | done | rfl) ?_
      refine (dnumber_walk W0.heap.size wd VV pre key HXd.out.ob HXd.out.be.size (by have h1 := pre_le (pre := pre) (rest := num8 key ++ num8 ixs.length ++ flatE encX (ixs.drop 0)) (by rw [← HP2.out]; simp only [List.append_assoc]) HTl.out; omega) HK.out).mono ?_
      rintro e w1 ⟨v1, rfl, ho_, hf_⟩
      refine ⟨_, rfl, ?_⟩
      have HX0 := Aside0.mk (HXd.out.step ho_ hf_)
      clear ho_ hf_
      refine hK.out _ _ ⟨(blk_cell HX0.out.bx 2).trans rfl, (blk_cell HX0.out.bx 3).trans rfl⟩ (fun hHeld => ?_)
      clear hK K
      refine norm_ (a' := ?_) ?_ ?_
      rotate_left
      · show Act.put _ (some 43) _ = _
        simp only [Act.put, List.setIfInBounds_toArray, List.set_cons_zero, List.set_cons_succ, i64_w, i32_w]
        rfl
      refine one_ (i := 7) (N := some 47) #[true, true, true, true, true, true, true, true, false] rfl rfl (one_of HT_.out (by kernel_rfl)) (by decide) (fun K hK => ?_)
      refine goes_ Try.func63 (by kernel_rfl) rfl #[v1, .int .i64 (ixs.length : Int)] (by rfl) rfl rfl (by (try simp only [List.map_toArray, List.map_cons, List.map_nil]); first | done | rfl) ?_
      refine (dnumber_walk W0.heap.size w1 v1 (pre ++ num8 key) ixs.length HX0.out.ob HX0.out.be.size (by have h1 := pre_le (pre := pre ++ num8 key) (rest := num8 ixs.length ++ flatE encX (ixs.drop 0)) (by rw [← HP2.out]; simp only [List.append_assoc]) HTl.out; omega) (by omega)).mono ?_
      rintro e w2 ⟨v2, rfl, ho_, hf_⟩
      refine ⟨_, rfl, ?_⟩
      have HX1 := Aside0.mk (HX0.out.step ho_ hf_)
      clear ho_ hf_
      refine hK.out _ _ ⟨(blk_cell HX1.out.bx 2).trans rfl, (blk_cell HX1.out.bx 3).trans rfl⟩ (fun hHeld => ?_)
      clear hK K
      refine norm_ (a' := ?_) ?_ ?_
      rotate_left
      · show Act.put _ (some 47) _ = _
        simp only [Act.put, List.setIfInBounds_toArray, List.set_cons_zero, List.set_cons_succ, i64_w, i32_w]
        rfl
      refine pure_ (i := 8) (N := some 0) (v := ?_) (a' := ?_) #[true, true, true, true, true, true, true, true, true] rfl rfl (any_of HT_.out (by kernel_rfl)) (fun _ _ _ h => h) (Or.inl ⟨by rfl, ?_⟩) ?_ ?_
      rotate_left
      · intro w'
        go_simp
        with_reducible rfl
      rotate_left
      · simp only [Act.put, List.setIfInBounds_toArray, List.set_cons_zero, List.set_cons_succ, i64_w, i32_w]
        rfl
      refine done_ (done_of HT_.out (by kernel_rfl)) ?_
      clear HT_ HW_
      obtain ⟨pre6, hp6⟩ : ∃ p, pre ++ num8 key ++ num8 ixs.length = p := ⟨_, rfl⟩
      rw [hp6] at HX1 HP2
      clear HXd HX0 hp6
      have p3 := (blk_cell HX1.out.bx 3).trans (show _ = some (Value.slice B ixs.length cb) from rfl)
      go_wp2_with fail
      clear p3
      go_loopg [0, 6] (ixs.length + 1) (fun kq v0 v6 w' => ∃ (VV : Value) (j : Nat) (pre : List UInt8), VV = v0 ∧ v6 = .int .i64 (j : Int) ∧ Aside0 (j + kq = ixs.length + 1 ∧ j ≤ ixs.length) ∧ Aside0 (pre ++ flatE encX (ixs.drop j) = T) ∧ Aside0 (SE W0 W w' g #[.string nm, .slice A cols.length ca, .int .i64 key, .slice B ixs.length cb] v0 pre))
      case atStart => exact ⟨_, 0, pre6, rfl, rfl, ⟨by omega, Nat.zero_le _⟩, HP2, HX1⟩
      case round =>
        clear HX1 HP2
        obtain ⟨VV, j, pre, hVV, rfl, HJ, HP, HX⟩ := hrel
        subst hVV
        have p3 := (blk_cell HX.out.bx 3).trans (show _ = some (Value.slice B ixs.length cb) from rfl)
        by_cases hj : j < ixs.length
        · have hji : (j : Int) < (ixs.length : Int) := by omega
          obtain ⟨kq1, rfl⟩ : ∃ kq1, gk = kq1 + 1 := ⟨gk - 1, by have := HJ.out.1; omega⟩
          obtain ⟨ad, C, e9, rfl, x0, x1, x2, hle, -⟩ := ix_at (Kd.C_below HB.out HX.out.be) j hj
          obtain ⟨ad', C', e9', e, z0, z1, z2, hle', hC⟩ := ix_at HB.out j hj
          obtain rfl := Option.some.inj e
          have e1 := (cell_keep HX.out.be (World.block_lt_of_cell? _ _ z1) z1).symm.trans x1
          have hcx := HCx.out _ (List.getElem_mem hj)
          have hp := HP.out
          rw [flatE_drop _ _ _ hj] at hp
          obtain ⟨x, hx⟩ : ∃ x, ixs[j] = x := ⟨_, rfl⟩
          rw [hx] at x0 x1 x2 hle hp hcx e1 hC
          obtain ⟨xn, xs, uq⟩ := x
          unfold encX encL at hp
          simp only at x0 x1 x2 hle hp hcx e1 hC
          injection e1 with e1
          injection e1 with ea eb ec
          subst ea ec
          obtain ⟨R9, hR9⟩ : ∃ R9, flatE encX (ixs.drop (j + 1)) = R9 := ⟨_, rfl⟩
          rw [show flatE (fun x : Ix => txt x.nm ++ (num8 x.cols.length ++ flatE num8 x.cols ++ [if x.uq = true then 1 else 0])) (ixs.drop (j + 1)) = R9 from hR9] at hp
          obtain ⟨fl, hfl⟩ : ∃ fl : UInt8, (if uq = true then 1 else 0) = fl := ⟨_, rfl⟩
          rw [hfl] at hp
          have hp2 : pre ++ txt xn ++ num8 xs.length ++ (flatE num8 (xs.drop 0) ++ ([fl] ++ R9)) = T := by rw [← hp]; simp only [List.append_assoc, List.drop_zero]
          have HP2 := Aside0.mk hp2
          have HXs := Aside0.mk hcx
          have HHj := Aside0.mk hj
          have HC := Aside0.mk hC
          have HFl := Aside0.mk hfl
          have HR9 := Aside0.mk hR9
          have y1 := far_cell x1
          have y2 := far_cell x2
          have hxl : xs.length ≤ 4096 := hcx.2.1
          obtain ⟨gx, hgx⟩ : ∃ gx, wr.heap.size = gx := ⟨_, rfl⟩
          have hal := below_alloc (Below.refl wr.heap.size wr) (.cells #[.string xn, .slice C' xs.length e9', .bool uq] 67)
          have HXa := Aside0.mk (HX.out.low hal)
          have HBx := Aside0.mk (show (wr.alloc (.cells #[.string xn, .slice C' xs.length e9', .bool uq] 67)).heap[gx]? = some (.cells #[.string xn, .slice C' xs.length e9', .bool uq] 67 (0, 0)) from hgx ▸ heap_alloc_new wr _)
          clear hp hp2 hcx hj hC hx x1 x2 z0 z1 z2 hle' hal hfl hR9
          go_upto_region 11 with fail
          clear hgx p3 x0 y1 y2 HX
          have HX := HXa
          clear HXa
          generalize wr.alloc (.cells #[.string xn, .slice C' xs.length e9', .bool uq] 67) = wx at *
          have HXd := Aside0.mk (HX.out.low (below_drew (Below.refl _ _)))
          have HBd := Aside0.mk (blk_below HBx.out (below_drew (Below.refl _ _)))
          refine start_ (n := 9) (S := fun w' => w'.cell? ⟨gx, 0, none⟩ = some (.string xn) ∧ w'.cell? ⟨gx, 1, none⟩ = some (.slice C' xs.length e9')) (ds := []) #[false, false, false, false, false, false, false, false, false] (by kernel_rfl) rfl rfl ⟨(blk_cell HBd.out 0).trans rfl, (blk_cell HBd.out 1).trans rfl⟩ (fun hHeld => ?_)
          refine with_tabW t44_11 b44_1 (fun HT_ HW_ => ?_)
          clear HX HBx
          generalize wx.drew = wd at HXd HBd hHeld ⊢
          refine pure_ (i := 0) (N := some 60) (v := ?_) (a' := ?_) #[true, false, false, false, false, false, false, false, false] rfl rfl (any_of HT_.out (by kernel_rfl)) (fun _ _ _ h => h) (Or.inl ⟨by rfl, ?_⟩) ?_ ?_
          rotate_left
          · intro w'
            go_simp
            with_reducible rfl
          rotate_left
          · simp only [Act.put, List.setIfInBounds_toArray, List.set_cons_zero, List.set_cons_succ, i64_w, i32_w]
            rfl
          refine pure_ (i := 1) (N := some 61) (v := ?_) (a' := ?_) #[true, true, false, false, false, false, false, false, false] rfl rfl (any_of HT_.out (by kernel_rfl)) (fun _ _ _ h => h) (Or.inl ⟨by rfl, ?_⟩) ?_ ?_
          rotate_left
          · intro w'
            go_simp
            with_reducible rfl
          rotate_left
          · simp only [Act.put, List.setIfInBounds_toArray, List.set_cons_zero, List.set_cons_succ, i64_w, i32_w]
            rfl
          refine take_ (i := 2) (N := some 62) (v := ?_) (a' := ?_) #[true, true, true, false, false, false, false, false, false] rfl rfl (take_ofW HT_.out HW_.out (by kernel_rfl)) (fun _ _ _ h => h) (Or.inl ⟨by rfl, ?_⟩) hHeld ?_ ?_
          rotate_left
          · rintro w' ⟨s0, s1⟩
            go_simp
            with_reducible rfl
          rotate_left
          · simp only [Act.put, List.setIfInBounds_toArray, List.set_cons_zero, List.set_cons_succ, i64_w, i32_w]
            rfl
          refine pure_ (i := 4) (N := some 64) (v := ?_) (a' := ?_) #[true, true, true, false, true, false, false, false, false] rfl rfl (any_of HT_.out (by kernel_rfl)) (fun _ _ _ h => h) (Or.inl ⟨by rfl, ?_⟩) ?_ ?_
          rotate_left
          · intro w'
            go_simp
            with_reducible rfl
          rotate_left
          · simp only [Act.put, List.setIfInBounds_toArray, List.set_cons_zero, List.set_cons_succ, i64_w, i32_w]
            rfl
          refine take_ (i := 5) (N := some 65) (v := ?_) (a' := ?_) #[true, true, true, false, true, true, false, false, false] rfl rfl (take_ofW HT_.out HW_.out (by kernel_rfl)) (fun _ _ _ h => h) (Or.inl ⟨by rfl, ?_⟩) hHeld ?_ ?_
          rotate_left
          · rintro w' ⟨s0, s1⟩
            go_simp
            with_reducible rfl
          rotate_left
          · simp only [Act.put, List.setIfInBounds_toArray, List.set_cons_zero, List.set_cons_succ, i64_w, i32_w]
            rfl
          refine pure_ (i := 6) (N := some 66) (v := ?_) (a' := ?_) #[true, true, true, false, true, true, true, false, false] rfl rfl (any_of HT_.out (by kernel_rfl)) (fun _ _ _ h => h) (Or.inl ⟨by rfl, ?_⟩) ?_ ?_
          rotate_left
          · intro w'
            go_simp
            with_reducible rfl
          rotate_left
          · simp only [Act.put, List.setIfInBounds_toArray, List.set_cons_zero, List.set_cons_succ, i64_w, i32_w]
            rfl
          refine one_ (i := 3) (N := some 63) #[true, true, true, true, true, true, true, false, false] rfl rfl (one_of HT_.out (by kernel_rfl)) (by decide) (fun K hK => ?_)
          refine goes_ Try.func64 (by kernel_rfl) rfl #[VV, .string xn] (by rfl) rfl rfl (by (try simp only [List.map_toArray, List.map_cons, List.map_nil]); first | done | rfl) ?_
          refine (dtext_walk W0.heap.size wd VV pre xn HXd.out.ob HXd.out.be.size (by have h1 := pre_le (pre := pre) (rest := txt xn ++ num8 xs.length ++ (flatE num8 (xs.drop 0) ++ ([fl] ++ R9))) (by rw [← HP2.out]; simp only [List.append_assoc]) HTl.out; omega) (by have := HXs.out.1; omega)).mono ?_
          rintro e w1 ⟨v1, rfl, ho_, hf_⟩
          refine ⟨_, rfl, ?_⟩
          have HX0 := Aside0.mk (HXd.out.step ho_ hf_)
          have HB0 := Aside0.mk (hf_.cells HBd.out (by decide))
          clear ho_ hf_
          refine hK.out _ _ ⟨(blk_cell HB0.out 0).trans rfl, (blk_cell HB0.out 1).trans rfl⟩ (fun hHeld => ?_)
          clear hK K
          refine norm_ (a' := ?_) ?_ ?_
          rotate_left
          · show Act.put _ (some 63) _ = _
            simp only [Act.put, List.setIfInBounds_toArray, List.set_cons_zero, List.set_cons_succ, i64_w, i32_w]
            rfl
          refine one_ (i := 7) (N := some 67) #[true, true, true, true, true, true, true, true, false] rfl rfl (one_of HT_.out (by kernel_rfl)) (by decide) (fun K hK => ?_)
          refine goes_ Try.func63 (by kernel_rfl) rfl #[v1, .int .i64 (xs.length : Int)] (by rfl) rfl rfl (by (try simp only [List.map_toArray, List.map_cons, List.map_nil]); first | done | rfl) ?_
          refine (dnumber_walk W0.heap.size w1 v1 (pre ++ txt xn) xs.length HX0.out.ob HX0.out.be.size (by have h1 := pre_le (pre := pre ++ txt xn) (rest := num8 xs.length ++ (flatE num8 (xs.drop 0) ++ ([fl] ++ R9))) (by rw [← HP2.out]; simp only [List.append_assoc]) HTl.out; omega) (by omega)).mono ?_
          rintro e w2 ⟨v2, rfl, ho_, hf_⟩
          refine ⟨_, rfl, ?_⟩
          have HX1 := Aside0.mk (HX0.out.step ho_ hf_)
          have HB1 := Aside0.mk (hf_.cells HB0.out (by decide))
          clear ho_ hf_
          refine hK.out _ _ ⟨(blk_cell HB1.out 0).trans rfl, (blk_cell HB1.out 1).trans rfl⟩ (fun hHeld => ?_)
          clear hK K
          refine norm_ (a' := ?_) ?_ ?_
          rotate_left
          · show Act.put _ (some 67) _ = _
            simp only [Act.put, List.setIfInBounds_toArray, List.set_cons_zero, List.set_cons_succ, i64_w, i32_w]
            rfl
          refine pure_ (i := 8) (N := some 0) (v := ?_) (a' := ?_) #[true, true, true, true, true, true, true, true, true] rfl rfl (any_of HT_.out (by kernel_rfl)) (fun _ _ _ h => h) (Or.inl ⟨by rfl, ?_⟩) ?_ ?_
          rotate_left
          · intro w'
            go_simp
            with_reducible rfl
          rotate_left
          · simp only [Act.put, List.setIfInBounds_toArray, List.set_cons_zero, List.set_cons_succ, i64_w, i32_w]
            rfl
          refine done_ (done_of HT_.out (by kernel_rfl)) ?_
          clear HT_ HW_
          obtain ⟨pre7, hp7⟩ : ∃ p, pre ++ txt xn ++ num8 xs.length = p := ⟨_, rfl⟩
          rw [hp7] at HX1 HP2
          clear HXd HX0 HBd HB0 hp7
          have q1 := (blk_cell HB1.out 1).trans (show _ = some (Value.slice C' xs.length e9') from rfl)
          go_wp2_with fail
          clear q1
          go_loopg [0, 8] (xs.length + 1) (fun kr v0 v8 w' => ∃ (VV : Value) (k : Nat) (pre : List UInt8), VV = v0 ∧ v8 = .int .i64 (k : Int) ∧ Aside0 (k + kr = xs.length + 1 ∧ k ≤ xs.length) ∧ Aside0 (pre ++ (flatE num8 (xs.drop k) ++ ([fl] ++ R9)) = T) ∧ Aside0 (SE W0 W w' g #[.string nm, .slice A cols.length ca, .int .i64 key, .slice (some ad) ixs.length cb] v0 pre) ∧ Aside0 (w'.heap[gx]? = some (.cells #[.string xn, .slice C' xs.length e9', .bool uq] 67 (0, 0))))
          case atStart => exact ⟨_, 0, pre7, rfl, rfl, ⟨by omega, Nat.zero_le _⟩, HP2, HX1, HB1⟩
          case round =>
            clear HX1 HP2 HB1
            obtain ⟨VV, k, pre, hVV, rfl, HK2, HP, HX, HBx⟩ := hrel
            subst hVV
            have q1 := (blk_cell HBx.out 1).trans (show _ = some (Value.slice C' xs.length e9') from rfl)
            by_cases hk : k < xs.length
            · have hki : (k : Int) < (xs.length : Int) := by omega
              obtain ⟨kq2, rfl⟩ : ∃ kq2, gk = kq2 + 1 := ⟨gk - 1, by have := HK2.out.1; omega⟩
              obtain ⟨ac, rfl, x0⟩ := int_at (Kd.C_below HC.out HX.out.be) k hk
              have hin := HXs.out.2.2 _ (List.getElem_mem hk)
              have hp := HP.out
              rw [flatE_drop _ _ _ hk] at hp
              obtain ⟨n, hn⟩ : ∃ n, xs[k] = n := ⟨_, rfl⟩
              rw [hn] at x0 hp hin
              have hp2 : pre ++ num8 n ++ (flatE num8 (xs.drop (k + 1)) ++ ([fl] ++ R9)) = T := by rw [← hp]; simp only [List.append_assoc]
              have HP2 := Aside0.mk hp2
              have HIn := Aside0.mk hin
              have HHk := Aside0.mk hk
              clear hp hp2 hin hn hk
              go_wp2_with (go_at_call 63; refine (dnumber_walk W0.heap.size wr _ pre n HX.out.ob HX.out.be.size (by have h1 := pre_le (pre := pre) (rest := num8 n ++ (flatE num8 (xs.drop (k + 1)) ++ ([fl] ++ R9))) (by rw [← HP2.out]; simp only [List.append_assoc]) HTl.out; omega) HIn.out).mono ?_; rintro e w3 ⟨v3, rfl, ho_, hf_⟩; have HX3 := Aside0.mk (HX.out.step ho_ hf_); have HB3 := Aside0.mk (hf_.cells HBx.out (by decide)); clear ho_ hf_)
              go_roundg kq2
              case measure => have := HK2.out; omega
              case rel => exact ⟨_, k + 1, _, rfl, by go_num, ⟨by have := HK2.out; omega, by have := HHk.out; omega⟩, HP2, HX3, HB3⟩
            · have hki : ¬ (k : Int) < (xs.length : Int) := by omega
              have q2 := (blk_cell HBx.out 2).trans (show _ = some (Value.bool uq) from rfl)
              have hp := HP.out
              rw [List.drop_of_length_le (by omega)] at hp
              have hp2 : pre ++ [fl] ++ flatE encX (ixs.drop (j + 1)) = T := by rw [← hp, HR9.out]; simp only [flatE, List.append_assoc, List.nil_append]
              have HP2 := Aside0.mk hp2
              have HLp := Aside0.mk (pre_le (pre := pre) (rest := [fl] ++ flatE encX (ixs.drop (j + 1))) (by rw [← hp2]; simp only [List.append_assoc]) HTl.out)
              clear hp hp2 hk
              cases uq with
              | true =>
                obtain rfl : fl = 1 := HFl.out.symm
                go_wp2_with ((with_reducible refine gate_builtin (b := .append) (xs := #[.tmp 84, .tmp 86]) rfl ?_); at_builtin; refine print_append_cells (w0 := wr) W0.heap.size rfl (.tmp 84) (.tmp 86) 74 5 (.int .u8 0) 1 1 rfl Try.underlying74 info5 rfl (by decide) (by decide) _ pre.length (bv pre) [.int .u8 1] rfl rfl rfl (by simp [Value.oneCell']) HX.out.ob (Below.refl _ _) HX.out.be.size (by have := HLp.out; omega) ?_; intro v1 w9 ho1 hb1 hg1 hat1; have HX9 := Aside0.mk (HX.out.step (v1 := v1) (pre1 := pre ++ [1]) (by unfold OB; rw [bv_app, List.length_append]; exact ho1) (FB.grown HX.out.ob hg1)); clear ho1 hb1 hg1 hat1)
                go_roundg kq1
                case measure => have := HJ.out; omega
                case rel => exact ⟨_, j + 1, _, rfl, by go_num, ⟨by have := HJ.out; omega, by have := HHj.out; omega⟩, HP2, HX9⟩
              | false =>
                obtain rfl : fl = 0 := HFl.out.symm
                go_wp2_with ((with_reducible refine gate_builtin (b := .append) (xs := #[.tmp 84, .tmp 86]) rfl ?_); at_builtin; refine print_append_cells (w0 := wr) W0.heap.size rfl (.tmp 84) (.tmp 86) 74 5 (.int .u8 0) 1 1 rfl Try.underlying74 info5 rfl (by decide) (by decide) _ pre.length (bv pre) [.int .u8 0] rfl rfl rfl (by simp [Value.oneCell']) HX.out.ob (Below.refl _ _) HX.out.be.size (by have := HLp.out; omega) ?_; intro v1 w9 ho1 hb1 hg1 hat1; have HX9 := Aside0.mk (HX.out.step (v1 := v1) (pre1 := pre ++ [0]) (by unfold OB; rw [bv_app, List.length_append]; exact ho1) (FB.grown HX.out.ob hg1)); clear ho1 hb1 hg1 hat1)
                go_roundg kq1
                case measure => have := HJ.out; omega
                case rel => exact ⟨_, j + 1, _, rfl, by go_num, ⟨by have := HJ.out; omega, by have := HHj.out; omega⟩, HP2, HX9⟩
        · have hji : ¬ (j : Int) < (ixs.length : Int) := by omega
          have hp := HP.out
          rw [List.drop_of_length_le (by omega)] at hp
          have hp2 : pre = T := by rw [← hp]; simp [flatE]
          subst hp2
          clear hp hj
          go_wp2_with fail
          go_ret
          exact ⟨_, rfl, HX.out.ob, HX.out.fr⟩
end Go.Proofs.Ytjehbnhjaogfkaa.Sc
end

section
namespace Go.Proofs.Ytjehbnhjaogfkaa.Sc
open Go.RowKit Go.Lib Go.Maps Go.WideAt Go.WideShapes Go.Proofs.YtjehbnhjaogfkaaW.PrintWords Go.Proofs.YtjehbnhjaogfkaaW.PrintLast Go.Proofs.YtjehbnhjaogfkaaW.PrintMore
open Go.Proofs.Ytjehbnhjaogfkaa
set_option linter.unusedVariables false
set_option linter.unusedSimpArgs false
/-- What an encoding of schemas is. -/
def encRL (l : List Tb) : ByteArray × Int := if 262144 < (flatE encT l).length then (⟨#[]⟩, 2) else (⟨(flatE encT l).toArray⟩, 0)
theorem encRL_tbs (M : CatM) : encRL (tbs M) = encR M := rfl
set_option maxRecDepth 100000 in
set_option maxHeartbeats 8000000 in
theorem dencode_walk (ok : Nat → Prop) (W : World) (h : Nat) (K : FM.T Tb) (hk : RK ok W h K) :
    Calls Try.prog 26 #[.pointer (some ⟨h, 0, none⟩)] W fun e W' => e = .returned (.tuple #[.string (encRL (vl K)).1, .int .i64 (encRL (vl K)).2]) ∧ Below W.heap.size W W' := by
  obtain ⟨R, hR0⟩ : ∃ R, encRL (vl K) = R := ⟨_, rfl⟩
  have HR0 := Aside0.mk hR0
  rw [hR0]
  clear hR0
  have hck : ∀ x ∈ vl K, chk x = true := fun x hx => by
    obtain ⟨p, hp, rfl⟩ := List.mem_map.1 hx
    exact hk.ck p hp
  obtain ⟨v, hv, hrow⟩ := hk.row
  obtain ⟨A, ca, rfl, hca, hC⟩ := Kd.R_reads hrow
  have hll := vl_len K
  have hml : (vl K).length ≤ 4096 := by rw [hll]; exact hk.len
  obtain ⟨L, hL⟩ : ∃ L, vl K = L := ⟨_, rfl⟩
  rw [hL] at hck hC hml hca hv HR0
  have HCk := Aside0.mk hck
  have HC := Aside0.mk hC
  have HV := Aside0.mk hv
  have c0 := (blk_cell hv 0).trans (show _ = some (Value.slice A L.length ca) from rfl)
  clear hk hrow hck hC hv hL hll
  go_enter Try.func26, Try.ntmps26
  go_wp2_with fail
  clear c0
  go_loopg [4, 5] (L.length + 1) (fun kq v4 v5 w' => ∃ (VV : Value) (i : Nat), VV = v4 ∧ v5 = .int .i64 (i : Int) ∧ Aside0 (i + kq = L.length + 1 ∧ i ≤ L.length) ∧ Aside0 (OB W.heap.size w' VV (flatE encT (L.take i))) ∧ Aside0 (Below W.heap.size W w'))
  case atStart => exact ⟨_, 0, rfl, rfl, ⟨by omega, Nat.zero_le _⟩, ⟨(own_nil _ _ _ _ : W.ownsRow W.heap.size 5 1 (.slice none 0 0) 0 [])⟩, ⟨Below.refl _ _⟩⟩
  case round =>
    obtain ⟨VV, i, hVV, rfl, HJ, HO, HB⟩ := hrel
    subst hVV
    have c0 := (blk_cell (blk_below HV.out HB.out) 0).trans (show _ = some (Value.slice A L.length ca) from rfl)
    by_cases hi : i < L.length
    · have hji : (i : Int) < (L.length : Int) := by omega
      obtain ⟨kq1, rfl⟩ : ∃ kq1, gk = kq1 + 1 := ⟨gk - 1, by have := HJ.out.1; omega⟩
      obtain ⟨ad, B, cb, D, cd, rfl, z0, z1, z2, z3, q1, q2, q3, q4⟩ := tb_at HC.out i hi
      have x0 := cell_keep HB.out (World.block_lt_of_cell? _ _ z0) z0
      have x1 := cell_keep HB.out (World.block_lt_of_cell? _ _ z1) z1
      have x2 := cell_keep HB.out (World.block_lt_of_cell? _ _ z2) z2
      have x3 := cell_keep HB.out (World.block_lt_of_cell? _ _ z3) z3
      obtain ⟨e1, e2⟩ := flatE_take encT L i hi
      have hen := flatE_le encT 5000 (L.take i) fun x hx => (chk_small (HCk.out x (List.mem_of_mem_take hx))).2
      rw [List.length_take, Nat.min_eq_left (Nat.le_of_lt hi)] at hen
      obtain ⟨t, ht⟩ : ∃ t, L[i] = t := ⟨_, rfl⟩
      have hckt : chk t = true := by rw [← ht]; exact HCk.out _ (List.getElem_mem hi)
      rw [ht] at x0 x1 x2 x3 q1 q2 q3 q4 e1
      have y1 := far_cell x1
      have y2 := far_cell x2
      have y3 := far_cell x3
      have HE := Aside0.mk e1
      have HHi := Aside0.mk hi
      have HW := Aside0.mk (dschema_walk W wr VV (flatE encT (L.take i)) t B cb D cd q2 q1 q4 q3 hckt HO.out HB.out (by omega))
      clear z0 z1 z2 z3 x1 x2 x3 q1 q2 q3 q4 e1 e2 hen ht hckt hi
      go_wp2_with (go_at_call 44; refine HW.out.mono ?_; rintro e w2 ⟨v2, rfl, ho2, hf2⟩; have HO2 := Aside0.mk ho2; have HB2 := Aside0.mk (hf2.below HB.out HB.out.size); clear ho2 hf2)
      go_roundg kq1
      case measure => have := HJ.out; omega
      case rel => exact ⟨_, i + 1, rfl, by go_num, ⟨by have := HJ.out; omega, by have := HHi.out; omega⟩, ⟨by rw [HE.out]; exact HO2.out⟩, HB2⟩
    · have hji : ¬ (i : Int) < (L.length : Int) := by omega
      have hv := HO.out
      rw [List.take_of_length_le (by omega)] at hv
      have hen := flatE_le encT 5000 L fun x hx => (chk_small (HCk.out x hx)).2
      have hconv := conv_own hv
      obtain ⟨A4, k4, rfl⟩ := own_shape hv
      obtain ⟨l, hl⟩ : ∃ l, flatE encT L = l := ⟨_, rfl⟩
      have hR : R = if 262144 < l.length then (⟨#[]⟩, 2) else (⟨l.toArray⟩, 0) := by rw [← HR0.out]; unfold encRL; rw [hl]
      rw [hl] at hconv
      by_cases hz : 262144 < l.length
      · have hz2 : (262144 : Int) < (l.length : Int) := by omega
        rw [if_pos hz] at hR
        have HRR := Aside0.mk hR
        clear hv hconv hR hen hz HO hi
        rw [hl]
        go_wp2_with fail
        exact bodyPost_ret (v := .tuple #[.string ⟨#[]⟩, .int .i64 2]) (by simp [results, Try.results26, go_sem]) rfl ⟨by rw [HRR.out], HB.out⟩
      · have hz2 : ¬ (262144 : Int) < (l.length : Int) := by omega
        rw [if_neg hz] at hR
        have HRR := Aside0.mk hR
        have HCv := Aside0.mk hconv
        clear hv hconv hR hen hz HO hi
        rw [hl]
        go_wp2_with ((with_reducible refine gate_dst (N := 28) rfl ?_); refine Kd.event_run (v := .string ⟨l.toArray⟩) (w1 := wr) rfl (conv_run rfl rfl HCv.out) ?_)
        exact bodyPost_ret (v := .tuple #[.string ⟨l.toArray⟩, .int .i64 0]) (by simp [results, Try.results26, go_sem]) rfl ⟨by rw [HRR.out], HB.out⟩
end Go.Proofs.Ytjehbnhjaogfkaa.Sc
end
