/- Ma: the texts P0, Sha0, Sha1, Sha2, Sha3, Sha4, Sha5, Sha6, Sha7, Sha8, Sha9, Sha10, Sha17, Eq0, one behind the other. -/
import Derived.Test.YtdnmllodefbekaaDoorHShaSumsx0
import Derived.LoopTactic
import Derived.WalkMore
import Derived.Lib.Hide
import Derived.WalkSpells
import Derived.BigRegion
import Derived.Deep.RegionLaw
import Derived.Laws.CopyOwn
import Derived.BigQuiet
import Derived.Deep.RegionHeld3
import Derived.IntWalk
import Derived.Deep.DeepCutAuto
import Derived.Lib.BufferWrite
section
namespace Go.Proofs.YtdnmllodefbekaaDoor.PShaSums
open Go.RowKit Go.Proofs.YtdnmllodefbekaaDoorW.PrintWords Go.Proofs.YtdnmllodefbekaaDoorW.PrintLast Go.Proofs.YtdnmllodefbekaaDoorW.PrintMore
attribute [local go_sem] max2_int min2_int max_two min_two max_three min_three max_four min_four   -- for this text's walks alone
set_option linter.unusedVariables false
set_option linter.unusedSimpArgs false



def errW : Option Int → Value
  | none => .nilIface
  | some c => .iface 0 (.int .i64 c)
theorem errW_none : errW none = .nilIface := rfl
theorem errW_some (c : Int) : errW (some c) = .iface 0 (.int .i64 c) := rfl

theorem info5 : (Tryd.prog.info? 5).map (fun i => (i.zero, i.size, i.bytes)) = some (some (.int .u8 0), 1, 1) := by kernel_rfl
theorem info33 : (Tryd.prog.info? 33).map (fun i => (i.zero, i.size, i.bytes)) = some (some (.int .u64 0), 1, 8) := by kernel_rfl
-- the values' own types

end Go.Proofs.YtdnmllodefbekaaDoor.PShaSums
end

section
namespace Go.Proofs.YtdnmllodefbekaaDoor.Sha
open Go.RowKit Go.Proofs.YtdnmllodefbekaaDoorW.PrintWords Go.Proofs.YtdnmllodefbekaaDoorW.PrintLast Go.Proofs.YtdnmllodefbekaaDoorW.PrintMore
set_option linter.unusedVariables false
set_option linter.unusedSimpArgs false
/-- A word turned: to the left by a = 2^(32-n), to the right by b = 2^n. -/
def ror (a b x : Int) : Int := Go.bits .or .u32 (x * a % 4294967296) (x / b)
theorem rot2 (x : Int) (w : World) : Calls Tryd.prog 64 #[.int .u32 x, .int .i64 (-2)] w fun e w' => e = .returned (.int .u32 (ror 1073741824 4 x)) ∧ w = w' := by
  have h1 : Go.bits .and .u64 (IntKind.u64.wrap (-2)) 31 = 30 := by decide
  go_enter Tryd.func64, Tryd.ntmps64
  go_wp2
  go_ret
  exact ⟨rfl, rfl⟩
theorem rot6 (x : Int) (w : World) : Calls Tryd.prog 64 #[.int .u32 x, .int .i64 (-6)] w fun e w' => e = .returned (.int .u32 (ror 67108864 64 x)) ∧ w = w' := by
  have h1 : Go.bits .and .u64 (IntKind.u64.wrap (-6)) 31 = 26 := by decide
  go_enter Tryd.func64, Tryd.ntmps64
  go_wp2
  go_ret
  exact ⟨rfl, rfl⟩
theorem rot7 (x : Int) (w : World) : Calls Tryd.prog 64 #[.int .u32 x, .int .i64 (-7)] w fun e w' => e = .returned (.int .u32 (ror 33554432 128 x)) ∧ w = w' := by
  have h1 : Go.bits .and .u64 (IntKind.u64.wrap (-7)) 31 = 25 := by decide
  go_enter Tryd.func64, Tryd.ntmps64
  go_wp2
  go_ret
  exact ⟨rfl, rfl⟩
theorem rot11 (x : Int) (w : World) : Calls Tryd.prog 64 #[.int .u32 x, .int .i64 (-11)] w fun e w' => e = .returned (.int .u32 (ror 2097152 2048 x)) ∧ w = w' := by
  have h1 : Go.bits .and .u64 (IntKind.u64.wrap (-11)) 31 = 21 := by decide
  go_enter Tryd.func64, Tryd.ntmps64
  go_wp2
  go_ret
  exact ⟨rfl, rfl⟩
theorem rot13 (x : Int) (w : World) : Calls Tryd.prog 64 #[.int .u32 x, .int .i64 (-13)] w fun e w' => e = .returned (.int .u32 (ror 524288 8192 x)) ∧ w = w' := by
  have h1 : Go.bits .and .u64 (IntKind.u64.wrap (-13)) 31 = 19 := by decide
  go_enter Tryd.func64, Tryd.ntmps64
  go_wp2
  go_ret
  exact ⟨rfl, rfl⟩
theorem rot17 (x : Int) (w : World) : Calls Tryd.prog 64 #[.int .u32 x, .int .i64 (-17)] w fun e w' => e = .returned (.int .u32 (ror 32768 131072 x)) ∧ w = w' := by
  have h1 : Go.bits .and .u64 (IntKind.u64.wrap (-17)) 31 = 15 := by decide
  go_enter Tryd.func64, Tryd.ntmps64
  go_wp2
  go_ret
  exact ⟨rfl, rfl⟩
theorem rot18 (x : Int) (w : World) : Calls Tryd.prog 64 #[.int .u32 x, .int .i64 (-18)] w fun e w' => e = .returned (.int .u32 (ror 16384 262144 x)) ∧ w = w' := by
  have h1 : Go.bits .and .u64 (IntKind.u64.wrap (-18)) 31 = 14 := by decide
  go_enter Tryd.func64, Tryd.ntmps64
  go_wp2
  go_ret
  exact ⟨rfl, rfl⟩
theorem rot19 (x : Int) (w : World) : Calls Tryd.prog 64 #[.int .u32 x, .int .i64 (-19)] w fun e w' => e = .returned (.int .u32 (ror 8192 524288 x)) ∧ w = w' := by
  have h1 : Go.bits .and .u64 (IntKind.u64.wrap (-19)) 31 = 13 := by decide
  go_enter Tryd.func64, Tryd.ntmps64
  go_wp2
  go_ret
  exact ⟨rfl, rfl⟩
theorem rot22 (x : Int) (w : World) : Calls Tryd.prog 64 #[.int .u32 x, .int .i64 (-22)] w fun e w' => e = .returned (.int .u32 (ror 1024 4194304 x)) ∧ w = w' := by
  have h1 : Go.bits .and .u64 (IntKind.u64.wrap (-22)) 31 = 10 := by decide
  go_enter Tryd.func64, Tryd.ntmps64
  go_wp2
  go_ret
  exact ⟨rfl, rfl⟩
theorem rot25 (x : Int) (w : World) : Calls Tryd.prog 64 #[.int .u32 x, .int .i64 (-25)] w fun e w' => e = .returned (.int .u32 (ror 128 33554432 x)) ∧ w = w' := by
  have h1 : Go.bits .and .u64 (IntKind.u64.wrap (-25)) 31 = 7 := by decide
  go_enter Tryd.func64, Tryd.ntmps64
  go_wp2
  go_ret
  exact ⟨rfl, rfl⟩
theorem quiet_add {P : Program} {f : FuncId} {args : Array Value} {w : World} {a n : Nat} {v : Value}
    (h : Calls P f args (w.drewN (a + n)) fun e w' => e = .returned v ∧ Drawn0 (w.drewN (a + n)) w') :
    Calls P f args (w.drewN (a + n)) fun e w'' => e = .returned v ∧ ∃ m, w'' = w.drewN (a + m) :=
  h.mono fun _ _ ⟨he, hd⟩ => by
    obtain ⟨m, hm⟩ := hd.out
    exact ⟨he, n + m, by rw [hm, World.drewN_drewN, Nat.add_assoc]⟩
theorem quiet_one {P : Program} {f : FuncId} {args : Array Value} {w : World} {n : Nat} {v : Value}
    (h : Calls P f args (w.drewN n) fun e w' => e = .returned v ∧ Drawn0 (w.drewN n) w') :
    Calls P f args (w.drewN n) fun e w'' => e = .returned v ∧ ∃ m, w'' = w.drewN m :=
  h.mono fun _ _ ⟨he, hd⟩ => by
    obtain ⟨m, hm⟩ := hd.out
    exact ⟨he, n + m, by rw [hm, World.drewN_drewN]⟩
theorem same_d {P : Program} {f : FuncId} {args : Array Value} {w : World} {v : Value} (h : Calls P f args w fun e w' => e = .returned v ∧ w = w') : Calls P f args w fun e w' => e = .returned v ∧ Drawn0 w w' :=
  h.mono fun _ _ ⟨he, hw⟩ => ⟨he, by subst hw; exact Drawn0.refl _⟩
def rotI (k x : Int) : Int := ror (2 ^ (32 - (-k).toNat)) (2 ^ (-k).toNat) x
theorem rot_calls (x k : Int) (w : World) (hk : k = -2 ∨ k = -6 ∨ k = -7 ∨ k = -11 ∨ k = -13 ∨ k = -17 ∨ k = -18 ∨ k = -19 ∨ k = -22 ∨ k = -25) : Calls Tryd.prog 64 #[.int .u32 x, .int .i64 k] w fun e w' => e = .returned (.int .u32 (rotI k x)) ∧ w = w' := by
  rcases hk with rfl | rfl | rfl | rfl | rfl | rfl | rfl | rfl | rfl | rfl
  · exact rot2 x w
  · exact rot6 x w
  · exact rot7 x w
  · exact rot11 x w
  · exact rot13 x w
  · exact rot17 x w
  · exact rot18 x w
  · exact rot19 x w
  · exact rot22 x w
  · exact rot25 x w
def bigE (x : Int) : Int := Go.bits .xor .u32 (Go.bits .xor .u32 (ror 67108864 64 x) (ror 2097152 2048 x)) (ror 128 33554432 x)
theorem bigE_calls (x : Int) (w : World) : Calls Tryd.prog 59 #[.int .u32 x, .int .i64 6, .int .i64 11, .int .i64 25] w fun e w' => e = .returned (.int .u32 (bigE x)) ∧ w = w' := by
  go_enter Tryd.func59, Tryd.ntmps59
  go_wp2_with (first | (go_at_call 64; (with_reducible refine (rot6 _ _).mono ?_); rintro e w' ⟨rfl, rfl⟩) | (go_at_call 64; (with_reducible refine (rot11 _ _).mono ?_); rintro e w' ⟨rfl, rfl⟩) | (go_at_call 64; (with_reducible refine (rot25 _ _).mono ?_); rintro e w' ⟨rfl, rfl⟩))
  go_ret
  exact ⟨rfl, rfl⟩
def bigA (x : Int) : Int := Go.bits .xor .u32 (Go.bits .xor .u32 (ror 1073741824 4 x) (ror 524288 8192 x)) (ror 1024 4194304 x)
theorem bigA_calls (x : Int) (w : World) : Calls Tryd.prog 59 #[.int .u32 x, .int .i64 2, .int .i64 13, .int .i64 22] w fun e w' => e = .returned (.int .u32 (bigA x)) ∧ w = w' := by
  go_enter Tryd.func59, Tryd.ntmps59
  go_wp2_with (first | (go_at_call 64; (with_reducible refine (rot2 _ _).mono ?_); rintro e w' ⟨rfl, rfl⟩) | (go_at_call 64; (with_reducible refine (rot13 _ _).mono ?_); rintro e w' ⟨rfl, rfl⟩) | (go_at_call 64; (with_reducible refine (rot22 _ _).mono ?_); rintro e w' ⟨rfl, rfl⟩))
  go_ret
  exact ⟨rfl, rfl⟩
def smaW (x : Int) : Int := Go.bits .xor .u32 (Go.bits .xor .u32 (ror 32768 131072 x) (ror 8192 524288 x)) (x / 1024)
theorem smaW_calls (x : Int) (w : World) : Calls Tryd.prog 58 #[.int .u32 x, .int .i64 17, .int .i64 19, .int .i64 10] w fun e w' => e = .returned (.int .u32 (smaW x)) ∧ Drawn0 w w' := by
  go_enter Tryd.func58, Tryd.ntmps58
  have n1 : IntKind.i64.wrap (-17) = -17 := by decide
  have n2 : IntKind.i64.wrap (-19) = -19 := by decide
  go_wp2_with fail
  go_quiet ((go_at_call 64; first | exact quiet_one (same_d (rot_calls _ _ _ (by decide))) | exact quiet_add (same_d (rot_calls _ _ _ (by decide)))))
  go_wp2
  go_ret
  exact ⟨rfl, ⟨_, rfl⟩⟩
def smaV (x : Int) : Int := Go.bits .xor .u32 (Go.bits .xor .u32 (ror 33554432 128 x) (ror 16384 262144 x)) (x / 8)
theorem smaV_calls (x : Int) (w : World) : Calls Tryd.prog 58 #[.int .u32 x, .int .i64 7, .int .i64 18, .int .i64 3] w fun e w' => e = .returned (.int .u32 (smaV x)) ∧ Drawn0 w w' := by
  go_enter Tryd.func58, Tryd.ntmps58
  have n1 : IntKind.i64.wrap (-7) = -7 := by decide
  have n2 : IntKind.i64.wrap (-18) = -18 := by decide
  go_wp2_with fail
  go_quiet ((go_at_call 64; first | exact quiet_one (same_d (rot_calls _ _ _ (by decide))) | exact quiet_add (same_d (rot_calls _ _ _ (by decide)))))
  go_wp2
  go_ret
  exact ⟨rfl, ⟨_, rfl⟩⟩
end Go.Proofs.YtdnmllodefbekaaDoor.Sha
end

section
namespace Go.Proofs.YtdnmllodefbekaaDoor.Sha
open Go.RowKit Go.Proofs.YtdnmllodefbekaaDoorW.PrintWords Go.Proofs.YtdnmllodefbekaaDoorW.PrintLast Go.Proofs.YtdnmllodefbekaaDoorW.PrintMore
set_option linter.unusedVariables false
set_option linter.unusedSimpArgs false
def KS : List Int := [1116352408, 1899447441, 3049323471, 3921009573, 961987163, 1508970993, 2453635748, 2870763221, 3624381080, 310598401, 607225278, 1426881987, 1925078388, 2162078206, 2614888103, 3248222580, 3835390401, 4022224774, 264347078, 604807628, 770255983, 1249150122, 1555081692, 1996064986, 2554220882, 2821834349, 2952996808, 3210313671, 3336571891, 3584528711, 113926993, 338241895, 666307205, 773529912, 1294757372, 1396182291, 1695183700, 1986661051, 2177026350, 2456956037, 2730485921, 2820302411, 3259730800, 3345764771, 3516065817, 3600352804, 4094571909, 275423344, 430227734, 506948616, 659060556, 883997877, 958139571, 1322822218, 1537002063, 1747873779, 1955562222, 2024104815, 2227730452, 2361852424, 2428436474, 2756734187, 3204031479, 3329325298]
def HS : List Int := [1779033703, 3144134277, 1013904242, 2773480762, 1359893119, 2600822924, 528734635, 1541459225]
/-- Four bytes as a word, the highest first. -/
def be4 (a b c d : Int) : Int := Go.bits .or .u32 (Go.bits .or .u32 (Go.bits .or .u32 ((a % 4294967296 * 16777216) % 4294967296) ((b % 4294967296 * 65536) % 4294967296)) ((c % 4294967296 * 256) % 4294967296)) (d % 4294967296)
/-- The next word of the schedule. -/
def nxt (ws : List Int) (t : Nat) : Int := (((smaW (rd ws (t - 2 : Nat)) + rd ws (t - 7 : Nat)) % 4294967296 + smaV (rd ws (t - 15 : Nat))) % 4294967296 + rd ws (t - 16 : Nat)) % 4294967296
def sched (bs : List Int) : Nat → List Int
  | 0 => []
  | t + 1 => sched bs t ++ [if t < 16 then be4 (rd bs (4 * t : Nat)) (rd bs (4 * t + 1 : Nat)) (rd bs (4 * t + 2 : Nat)) (rd bs (4 * t + 3 : Nat)) else nxt (sched bs t) t]
def ch (e f g : Int) : Int := Go.bits .xor .u32 (Go.bits .and .u32 e f) (Go.bits .and .u32 (Go.bits .xor .u32 IntKind.u32.max e) g)
def mj (a b c : Int) : Int := Go.bits .xor .u32 (Go.bits .xor .u32 (Go.bits .and .u32 a b) (Go.bits .and .u32 a c)) (Go.bits .and .u32 b c)
def tx (e f g h k w : Int) : Int := (h + bigE e + ch e f g + k + w) % 4294967296
def ty (a b c : Int) : Int := (bigA a + mj a b c) % 4294967296
def rnd (k w : Int) : List Int → List Int
  | [a, b, c, d, e, f, g, h] => [(tx e f g h k w + ty a b c) % 4294967296, a, b, c, (d + tx e f g h k w) % 4294967296, e, f, g]
  | l => l
def rounds (ws st : List Int) : Nat → List Int
  | 0 => st
  | t + 1 => rnd (rd KS t) (rd ws t) (rounds ws st t)
def blk (st bs : List Int) : List Int := List.zipWith (fun s v => (s + v) % 4294967296) st (rounds (sched bs 64) st 64)
theorem sched_len (bs : List Int) (t : Nat) : (sched bs t).length = t := by
  induction t with
  | zero => rfl
  | succ t ih => simp [sched, ih]
theorem rnd_len (k w : Int) (l : List Int) (h : l.length = 8) : (rnd k w l).length = 8 := by
  match l, h with
  | [a, b, c, d, e, f, g, h], _ => rfl
theorem rounds_len (ws st : List Int) (h : st.length = 8) (t : Nat) : (rounds ws st t).length = 8 := by
  induction t with
  | zero => exact h
  | succ t ih => exact rnd_len _ _ _ ih
theorem blk_len (st bs : List Int) (h : st.length = 8) : (blk st bs).length = 8 := by simp [blk, h, rounds_len _ _ h]
theorem eight (l : List Int) (h : l.length = 8) : ∃ a b c d e f g i, l = [a, b, c, d, e, f, g, i] := by
  match l, h with
  | [a, b, c, d, e, f, g, i], _ => exact ⟨a, b, c, d, e, f, g, i, rfl⟩
/-! ### memory -/
/-- A hash at block g: the state's eight words, the slice of what is left, the count. -/
def HCells (st : List Int) (rv : Value) (lg : Int) : Array Value := (nums .u32 st ++ [rv, .int .u64 lg]).toArray
def ZC (n : Nat) (xs : List Int) : Array Value := (nums .u32 (xs ++ List.replicate (n - xs.length) 0)).toArray
theorem step_copy_mine {P : Program} {ops : Array Oper} {o : Oper} {a : Act} {w : World} {K : Act → World → Prop} {Q : Exit → Act → World → Prop} {E : Prop} (hgd : o.guard = none) (d s : Operand) (dT sT : TypeId)
    (ho : o.op = .call { callee := .builtin .copy, args := #[d, s], argTypes := #[dT, sT] }) (elem : TypeId) (hu : P.underlying dT = some (.slice elem)) (hsz : (P.info? elem).map (·.size) = some 1)
    (dp sp : Option Addr) (dLen dCap sLen sCap : Nat) (hd : a.eval d = .slice dp dLen dCap) (hs : a.eval s = .slice sp sLen sCap)
    (g off : Nat) (cur : List Value) (t : TypeId) (hg : w.heap[g]? = some (.cells cur.toArray t (0, 0))) (cs : List Value) (hn : cs.length = Nat.min sLen dLen)
    (hpos : 0 < cs.length → dp = some ⟨g, off, none⟩ ∧ ∃ ad, sp = some ad ∧ ∀ j v, cs[j]? = some v → w.cell? (ad.add j) = some v)
    (hfit : off + cs.length ≤ cur.length) (h1 : ∀ v ∈ cs, v.oneCell' = true)
    (h : ∀ w', w'.heap[g]? = some (.cells (cur.take off ++ (cs ++ cur.drop (off + cs.length))).toArray t (0, 0)) → w.grownBy w' (some g) → K (a.put o.dst (goInt cs.length)) w') :
    if Region.wanted o (yielded ops a.tmps) = true then Oper.wp P o a w K Q else E := by
  have hw : Region.wanted o (yielded ops a.tmps) = true := by simp [Region.wanted, hgd]
  rw [if_pos hw]
  by_cases h0 : cs.length = 0
  · obtain rfl : cs = [] := List.eq_nil_of_length_eq_zero h0
    have hrun := run_copy_none (P := P) w dT sT o.type elem dp sp dLen dCap sLen sCap hu hsz (by simpa using hn.symm)
    unfold Oper.wp
    simp [execOp, ho, resolve, invoke, builtin, hd, hs, hrun, Result.andThen]
    exact h w (show _ = _ by simpa using hg) ⟨rfl, rfl, rfl, Nat.le_refl _, fun _ _ _ => rfl⟩
  · obtain ⟨rfl, ad, rfl, hsrc⟩ := hpos (by omega)
    have hrun := run_copy_row (P := P) w dT sT o.type elem g off dLen dCap ad sLen sCap cur.toArray t cs hu hsz hg hn hsrc (by simpa using hfit) h1
    unfold Oper.wp
    simp [execOp, ho, resolve, invoke, builtin, hd, hs, hrun, Result.andThen]
    refine h _ (show _ = _ by simpa using setRow_heap w g _ _ t _ hg) ⟨rfl, rfl, rfl, by simp [World.setRow], fun k _ hk => setRow_other w g k _ fun e => hk (by rw [e])⟩
/-- What the package's variables hold: they lie at blocks 0 and 1. -/
structure Laid (W : World) : Prop where
  b : ∀ i : Nat, i < 8 → W.cell? ⟨0, i, none⟩ = some (.int .u32 (rd HS i))
  c : ∀ i : Nat, i < 64 → W.cell? ⟨1, i, none⟩ = some (.int .u32 (rd KS i))
theorem Laid.step {W W1 : World} {B : Nat} (h : Laid W) (hb : Below B W W1) (hB : 2 ≤ B) : Laid W1 :=
  ⟨fun i hi => (hb.cell (p := ⟨0, i, none⟩) (show 0 < B by omega)).trans (h.b i hi), fun i hi => (hb.cell (p := ⟨1, i, none⟩) (show 1 < B by omega)).trans (h.c i hi)⟩
theorem nums_cell (k : IntKind) (xs : List Int) (t : Nat) (h : t < xs.length) : (nums k xs).toArray[t]? = some (.int k (rd xs t)) := by
  simp [nums, rd, List.getD_eq_getElem?_getD, h]
theorem cell_nums {W : World} {g t : Nat} {xs : List Int} {k : IntKind} (h : W.heap[g]? = some (.cells (nums k xs).toArray t (0, 0))) (i : Nat) (hi : i < xs.length) : W.cell? ⟨g, i, none⟩ = some (.int k (rd xs i)) :=
  (blk_cell h i).trans (nums_cell k xs i hi)
end Go.Proofs.YtdnmllodefbekaaDoor.Sha
end

section
namespace Go.Proofs.YtdnmllodefbekaaDoor.Sha
open Go.RowKit Go.Proofs.YtdnmllodefbekaaDoorW.PrintWords Go.Proofs.YtdnmllodefbekaaDoorW.PrintLast Go.Proofs.YtdnmllodefbekaaDoorW.PrintMore
set_option linter.unusedVariables false
set_option linter.unusedSimpArgs false
theorem zc_cell (n : Nat) (xs : List Int) (h : xs.length ≤ n) (i : Nat) (hi : i < n) : (ZC n xs)[i]? = some (.int .u32 (rd (xs ++ List.replicate (n - xs.length) 0) i)) :=
  nums_cell .u32 _ i (by rw [List.length_append, List.length_replicate]; omega)
theorem zc_set (n t : Nat) (xs : List Int) (x : Int) (h : xs.length = t) (ht : t < n) : (ZC n xs).setIfInBounds t (.int .u32 x) = ZC n (xs ++ [x]) := by
  unfold ZC
  apply Array.ext'
  simp only [List.setIfInBounds_toArray, nums]
  rw [show Value.int IntKind.u32 x = Value.int .u32 x from rfl, ← List.map_set]
  congr 1
  rw [List.set_append_right _ _ (by omega), h, Nat.sub_self, List.append_assoc]
  congr 1
  obtain ⟨m, rfl⟩ : ∃ m, n = t + 1 + m := ⟨n - t - 1, by omega⟩
  rw [show t + 1 + m - t = m + 1 by omega, show t + 1 + m - (xs ++ [x]).length = m by rw [List.length_append, h, List.length_singleton]; omega]
  simp [List.replicate_succ]
theorem rd_left (xs ys : List Int) (i : Nat) (h : i < xs.length) : rd (xs ++ ys) i = rd xs i := by
  unfold rd
  simp [List.getD_eq_getElem?_getD, List.getElem?_append_left h]
def cellAt (w : World) (p : Addr) : Value := (w.cell? p).getD undef
theorem cellAt_of {w : World} {p : Addr} {x : Value} (h : w.cell? p = some x) : w.cell? p = some (cellAt w p) := by unfold cellAt; rw [h]; rfl
theorem cellAt_set {w : World} {p : Addr} {x : Value} (h : w.cell? p = some x) (v : Value) : (w.setCell p v).cell? p = some (cellAt (w.setCell p v) p) := by
  obtain ⟨y, hy⟩ := RowKit.cell?_setCell_some (p := p) (x := v) (q := p) h
  exact cellAt_of hy
theorem far_off {w : World} {b m t : Nat} {v u : Value} (h : w.cell? ⟨b, m, none⟩ = some v) (hm : m ≠ t) : (w.setCell ⟨b, t, none⟩ u).cell? ⟨b, m, none⟩ = some v :=
  (World.cell?_setCell_other w ⟨b, t, none⟩ ⟨b, m, none⟩ u (fun e => hm (by injection e with _ e; exact e.symm))).trans h
def shI (a x : Int) : Int := if a = 17 then smaW x else smaV x
theorem sh_calls (x a b c : Int) (w : World) (h : (a = 17 ∧ b = 19 ∧ c = 10) ∨ (a = 7 ∧ b = 18 ∧ c = 3)) : Calls Tryd.prog 58 #[.int .u32 x, .int .i64 a, .int .i64 b, .int .i64 c] w fun e w' => e = .returned (.int .u32 (shI a x)) ∧ Drawn0 w w' := by
  rcases h with ⟨rfl, rfl, rfl⟩ | ⟨rfl, rfl, rfl⟩
  · rw [show shI 17 x = smaW x from if_pos rfl]; exact smaW_calls x w
  · rw [show shI 7 x = smaV x from if_neg (by decide)]; exact smaV_calls x w
def rtI (a x : Int) : Int := if a = 6 then bigE x else bigA x
theorem rt_calls (x a b c : Int) (w : World) (h : (a = 6 ∧ b = 11 ∧ c = 25) ∨ (a = 2 ∧ b = 13 ∧ c = 22)) : Calls Tryd.prog 59 #[.int .u32 x, .int .i64 a, .int .i64 b, .int .i64 c] w fun e w' => e = .returned (.int .u32 (rtI a x)) ∧ w = w' := by
  rcases h with ⟨rfl, rfl, rfl⟩ | ⟨rfl, rfl, rfl⟩
  · rw [show rtI 6 x = bigE x from if_pos rfl]; exact bigE_calls x w
  · rw [show rtI 2 x = bigA x from if_neg (by decide)]; exact bigA_calls x w
theorem size66 : (Tryd.prog.info? 66).map (·.size) = some 1 := by kernel_rfl
theorem seven_cells {w : World} {g : Nat} {a b c d e f h : Int} (v0 : w.cell? ⟨g, 0, none⟩ = some (.int .u32 a)) (v1 : w.cell? ⟨g, 1, none⟩ = some (.int .u32 b)) (v2 : w.cell? ⟨g, 2, none⟩ = some (.int .u32 c)) (v3 : w.cell? ⟨g, 3, none⟩ = some (.int .u32 d)) (v4 : w.cell? ⟨g, 4, none⟩ = some (.int .u32 e)) (v5 : w.cell? ⟨g, 5, none⟩ = some (.int .u32 f)) (v6 : w.cell? ⟨g, 6, none⟩ = some (.int .u32 h)) :
    ∀ j v, (nums .u32 [a, b, c, d, e, f, h])[j]? = some v → w.cell? ((⟨g, 0, none⟩ : Addr).add j) = some v := by
  intro j v hj
  have e : (⟨g, 0, none⟩ : Addr).add j = ⟨g, j, none⟩ := add_plain g j
  rw [e]
  simp only [nums, List.map_cons, List.map_nil] at hj
  rcases j with _ | _ | _ | _ | _ | _ | _ | j
  all_goals
    simp only [List.getElem?_cons_zero, List.getElem?_cons_succ, List.getElem?_nil, Option.some.injEq, reduceCtorEq] at hj
  all_goals subst hj
  · exact v0
  · exact v1
  · exact v2
  · exact v3
  · exact v4
  · exact v5
  · exact v6
/-- The state while the round's words are put to it. -/
def mixL (st R : List Int) (t : Nat) : List Int := (List.zipWith (fun s v => (s + v) % 4294967296) st R).take t ++ st.drop t
theorem mix_end (st bs : List Int) (h : st.length = 8) (hR : (rounds (sched bs 64) st 64).length = 8) : blk st bs = mixL st (rounds (sched bs 64) st 64) 8 := by
  unfold blk mixL
  rw [List.take_of_length_le (by simp [h, hR]), List.drop_of_length_le (by omega), List.append_nil]
theorem mix_len (st R : List Int) (t : Nat) (h : st.length = 8) (hR : R.length = 8) : (mixL st R t).length = 8 := by
  unfold mixL
  simp [h, hR]; omega
theorem rd_mix (st R : List Int) (t : Nat) (h : st.length = 8) (hR : R.length = 8) (ht : t < 8) : rd (mixL st R t) t = rd st t := by
  unfold mixL rd
  simp [List.getD_eq_getElem?_getD, List.getElem?_append, h, hR, Nat.min_eq_left (Nat.le_of_lt ht)]
theorem mix_set (st R : List Int) (t : Nat) (h : st.length = 8) (hR : R.length = 8) (ht : t < 8) : (mixL st R t).set t ((rd st t + rd R t) % 4294967296) = mixL st R (t + 1) := by
  unfold mixL
  have hz : (List.zipWith (fun s v => (s + v) % 4294967296) st R).length = 8 := by simp [h, hR]
  rw [List.set_append_right _ _ (by simp [hz]; omega)]
  have e1 : ((List.zipWith (fun s v => (s + v) % 4294967296) st R).take t).length = t := by rw [List.length_take, hz]; omega
  rw [e1, Nat.sub_self, List.drop_eq_getElem_cons (by omega), List.set_cons_zero, List.take_succ_eq_append_getElem (by omega), List.append_assoc]
  congr 1
  simp only [List.cons_append, List.nil_append, List.cons.injEq, and_true]
  unfold rd
  simp [List.getElem_zipWith, List.getD_eq_getElem?_getD, h, hR, ht]
theorem hc_cell (l : List Int) (rv : Value) (lg : Int) (h : l.length = 8) (i : Nat) (hi : i < 8) : (HCells l rv lg)[i]? = some (.int .u32 (rd l i)) := by
  unfold HCells rd nums
  simp [List.getElem?_append, List.getD_eq_getElem?_getD, h, hi]
theorem hc_set (l : List Int) (rv : Value) (lg : Int) (h : l.length = 8) (i : Nat) (hi : i < 8) (x : Int) : (HCells l rv lg).setIfInBounds i (.int .u32 x) = HCells (l.set i x) rv lg := by
  unfold HCells nums
  apply Array.ext'
  simp only [List.setIfInBounds_toArray]
  rw [List.set_append_left _ _ (by simp [h]; omega), List.map_set]
theorem below_drewB {B : Nat} {w W : World} (h : Below B w W) (n : Nat) : Below B w (W.drewN n) := ⟨h.os, h.tape, h.output, h.size, h.block⟩
theorem nxt_wraps (a b c d : Int) : IntKind.u32.wrap (IntKind.u32.wrap (IntKind.u32.wrap (shI 17 a + b) + shI 7 c) + d) = (((smaW a + b) % 4294967296 + smaV c) % 4294967296 + d) % 4294967296 := by
  rw [show shI 17 a = smaW a from if_pos rfl, show shI 7 c = smaV c from if_neg (by decide)]
  simp only [IntKind.wrap_u32]
set_option maxRecDepth 100000 in
set_option maxHeartbeats 8000000 in
theorem block_walk (g : Nat) (st : List Int) (rv : Value) (lg : Int) (A : Option Addr) (c : Nat) (bs : List Int) (w : World) (hL : Laid w) (hg2 : 2 ≤ g) (hg : w.heap[g]? = some (.cells (HCells st rv lg) 73 (0, 0))) (hst : st.length = 8)
    (hb : ReadsInt w .u8 A 64 bs) (hc : 64 ≤ c) (hbg : ∀ ad, A = some ad → ad.block ≠ g) :
    Calls Tryd.prog 46 #[.pointer (some ⟨g, 0, none⟩), .slice A 64 c] w fun e w' => e = .returned (.tuple #[]) ∧ w'.heap[g]? = some (.cells (HCells (blk st bs) rv lg) 73 (0, 0)) ∧ Kept w w' (· = g) ∧ Below g w w' := by
  obtain ⟨ad, rfl, hbc⟩ := hb.2.2 (by decide)
  have HLd := Aside0.mk hL
  have HG := Aside0.mk hg
  have HB := Aside0.mk hbc
  have hlt := blk_lt hg
  clear hL hg hbc hb
  go_enter Tryd.func46, Tryd.ntmps46
  go_wp2_with fail
  go_loopg [13] 65 (fun kq v13 w' => ∃ t : Nat, v13 = .int .i64 (t : Int) ∧ Aside0 (t + kq = 65 ∧ t ≤ 64) ∧ Aside0 (w'.heap[w.heap.size]? = some (.cells (ZC 64 (sched bs t)) 92 (0, 0)) ∧ Below w.heap.size w w'))
  case atStart => exact ⟨0, rfl, ⟨rfl, Nat.zero_le _⟩, ⟨heap_alloc_new w _, below_alloc (Below.refl _ _) _⟩⟩
  case round =>
    obtain ⟨t, rfl, HT, HW⟩ := hrel
    by_cases q1 : t < 64
    · obtain ⟨kq1, rfl⟩ : ∃ kq1, gk = kq1 + 1 := ⟨gk - 1, by have := HT.out; omega⟩
      have q1' : (t : Int) < 64 := by omega
      have fz := blk_frozen HW.out.1 t
      have cz := blk_cell HW.out.1 t
      rw [zc_cell _ _ (by rw [sched_len]; omega) t q1] at cz
      by_cases q2 : t < 16
      · have q2' : (t : Int) < 16 := by omega
        obtain ⟨k0, hk0⟩ : ∃ k, k = 4 * t := ⟨_, rfl⟩
        obtain ⟨k1, hk1⟩ : ∃ k, k = 4 * t + 1 := ⟨_, rfl⟩
        obtain ⟨k2, hk2⟩ : ∃ k, k = 4 * t + 2 := ⟨_, rfl⟩
        obtain ⟨k3, hk3⟩ : ∃ k, k = 4 * t + 3 := ⟨_, rfl⟩
        have h0 := (HW.out.2.cell (p := ad.add k0) (World.block_lt_of_cell? _ _ (HB.out _ (by omega)))).trans (HB.out k0 (by omega))
        have h1 := (HW.out.2.cell (p := ad.add k1) (World.block_lt_of_cell? _ _ (HB.out _ (by omega)))).trans (HB.out k1 (by omega))
        have h2 := (HW.out.2.cell (p := ad.add k2) (World.block_lt_of_cell? _ _ (HB.out _ (by omega)))).trans (HB.out k2 (by omega))
        have h3 := (HW.out.2.cell (p := ad.add k3) (World.block_lt_of_cell? _ _ (HB.out _ (by omega)))).trans (HB.out k3 (by omega))
        have i0 : (4 * (t : Int)).toNat = k0 := by omega
        have i1 : (4 * (t : Int) + 1).toNat = k1 := by omega
        have i2 : (4 * (t : Int) + 2).toNat = k2 := by omega
        have i3 : (4 * (t : Int) + 3).toNat = k3 := by omega
        obtain ⟨x0, hx0⟩ : ∃ x, x = rd bs k0 := ⟨_, rfl⟩
        obtain ⟨x1, hx1⟩ : ∃ x, x = rd bs k1 := ⟨_, rfl⟩
        obtain ⟨x2, hx2⟩ : ∃ x, x = rd bs k2 := ⟨_, rfl⟩
        obtain ⟨x3, hx3⟩ : ∃ x, x = rd bs k3 := ⟨_, rfl⟩
        replace h0 : wr.cell? (ad.add k0) = some (.int .u8 x0) := by rw [hx0]; exact h0
        replace h1 : wr.cell? (ad.add k1) = some (.int .u8 x1) := by rw [hx1]; exact h1
        replace h2 : wr.cell? (ad.add k2) = some (.int .u8 x2) := by rw [hx2]; exact h2
        replace h3 : wr.cell? (ad.add k3) = some (.int .u8 x3) := by rw [hx3]; exact h3
        have HX := Aside0.mk (And.intro hx0 (And.intro hx1 (And.intro hx2 hx3)))
        clear hx0 hx1 hx2 hx3
        have HKE := Aside0.mk (And.intro hk0 (And.intro hk1 (And.intro hk2 hk3)))
        clear hk0 hk1 hk2 hk3
        have l0 : 4 * (t : Int) < 64 := by omega
        have l1 : 4 * (t : Int) + 1 < 64 := by omega
        have l2 : 4 * (t : Int) + 2 < 64 := by omega
        have l3 : 4 * (t : Int) + 3 < 64 := by omega
        have HQ := Aside0.mk q2
        clear q1 q2
        go_wp2_with fail
        go_region
        go_wp2
        go_roundg kq1
        case measure => omega
        case rel =>
          refine ⟨t + 1, by simp, ⟨by have := HT.out; omega, by have := HQ.out; omega⟩, ⟨?_, below_set (pw_below_drewN HW.out.2 1) (Nat.le_refl _)⟩⟩
          have e : sched bs (t + 1) = sched bs t ++ [be4 x0 x1 x2 x3] := by
            obtain ⟨e0, e1, e2, e3⟩ := HX.out
            obtain ⟨d0, d1, d2, d3⟩ := HKE.out
            rw [sched, if_pos HQ.out, e0, e1, e2, e3, d0, d1, d2, d3]
          rw [e]
          exact blk_put HW.out.1 t _ (zc_set 64 _ _ _ (sched_len bs t) (by have := HQ.out; omega))
      · have q2' : ¬ (t : Int) < 16 := by omega
        obtain ⟨m2, hm2⟩ : ∃ m, m = t - 2 := ⟨_, rfl⟩
        obtain ⟨m7, hm7⟩ : ∃ m, m = t - 7 := ⟨_, rfl⟩
        obtain ⟨m15, hm15⟩ : ∃ m, m = t - 15 := ⟨_, rfl⟩
        obtain ⟨m16, hm16⟩ : ∃ m, m = t - 16 := ⟨_, rfl⟩
        have gz : ∀ m, m < 64 → m < t → wr.cell? ⟨w.heap.size, m, none⟩ = some (.int .u32 (rd (sched bs t) m)) := fun m hm hmt => by
          rw [blk_cell HW.out.1 m, zc_cell _ _ (by rw [sched_len]; omega) m hm, rd_left _ _ _ (by rw [sched_len]; exact hmt)]
        obtain ⟨y2, hy2⟩ : ∃ x, x = rd (sched bs t) m2 := ⟨_, rfl⟩
        obtain ⟨y7, hy7⟩ : ∃ x, x = rd (sched bs t) m7 := ⟨_, rfl⟩
        obtain ⟨y15, hy15⟩ : ∃ x, x = rd (sched bs t) m15 := ⟨_, rfl⟩
        obtain ⟨y16, hy16⟩ : ∃ x, x = rd (sched bs t) m16 := ⟨_, rfl⟩
        have c2 := gz m2 (by omega) (by omega)
        have c7 := gz m7 (by omega) (by omega)
        have c15 := gz m15 (by omega) (by omega)
        have c16 := gz m16 (by omega) (by omega)
        rw [← hy2] at c2
        rw [← hy7] at c7
        rw [← hy15] at c15
        rw [← hy16] at c16
        have HY := Aside0.mk (show sched bs (t + 1) = sched bs t ++ [(((smaW y2 + y7) % 4294967296 + smaV y15) % 4294967296 + y16) % 4294967296] from by
          rw [sched, if_neg q2, hy2, hy7, hy15, hy16, hm2, hm7, hm15, hm16]; rfl)
        have s2 : IntKind.i64.wrap ((t : Int) - 2) = (t : Int) - 2 := IntWalk.i64_in _ (by omega)
        have s7 : IntKind.i64.wrap ((t : Int) - 7) = (t : Int) - 7 := IntWalk.i64_in _ (by omega)
        have s15 : IntKind.i64.wrap ((t : Int) - 15) = (t : Int) - 15 := IntWalk.i64_in _ (by omega)
        have s16 : IntKind.i64.wrap ((t : Int) - 16) = (t : Int) - 16 := IntWalk.i64_in _ (by omega)
        have p2 : 0 ≤ (t : Int) - 2 := by omega
        have p7 : 0 ≤ (t : Int) - 7 := by omega
        have p15 : 0 ≤ (t : Int) - 15 := by omega
        have p16 : 0 ≤ (t : Int) - 16 := by omega
        have v2 : 2 ≤ (t : Int) := by omega
        have v7 : 7 ≤ (t : Int) := by omega
        have v15 : 15 ≤ (t : Int) := by omega
        have v16 : 16 ≤ (t : Int) := by omega
        have u2 : (t : Int) - 2 < 64 := by omega
        have u7 : (t : Int) - 7 < 64 := by omega
        have u15 : (t : Int) - 15 < 64 := by omega
        have u16 : (t : Int) - 16 < 64 := by omega
        have i2 : ((t : Int) - 2).toNat = m2 := by omega
        have i7 : ((t : Int) - 7).toNat = m7 := by omega
        have i15 : ((t : Int) - 15).toNat = m15 := by omega
        have i16 : ((t : Int) - 16).toNat = m16 := by omega
        have HQ := Aside0.mk q1
        have d0 := Drawn0.refl wr
        clear hm2 hm7 hm15 hm16 hy2 hy7 hy15 hy16 gz q1 q2
        go_wp2_with fail
        have n2 : m2 ≠ t := by omega
        have n7 : m7 ≠ t := by omega
        have n15 : m15 ≠ t := by omega
        have n16 : m16 ≠ t := by omega
        have ca := cellAt_of cz
        go_region_held3 (fun w' => w'.cell? ⟨w.heap.size, m2, none⟩ = some (.int .u32 y2) ∧ w'.cell? ⟨w.heap.size, m7, none⟩ = some (.int .u32 y7) ∧ w'.cell? ⟨w.heap.size, m15, none⟩ = some (.int .u32 y15) ∧ w'.cell? ⟨w.heap.size, m16, none⟩ = some (.int .u32 y16) ∧ w'.cell? ⟨w.heap.size, t, none⟩ = some (cellAt w' ⟨w.heap.size, t, none⟩) ∧ w'.frozen? ⟨w.heap.size, t, none⟩ = false)
          (first | (refine ⟨?_, ?_, ?_, ?_, ?_, ?_⟩ <;> first | assumption | exact far_off ‹_› ‹_› | exact cellAt_set ‹_› _ | (rw [World.frozen?_setCell]; assumption)) | (go_split_ands; refine ⟨?_, ?_, ?_, ?_, ?_, ?_, ?_⟩ <;> first | assumption | exact far_off ‹_› ‹_› | exact cellAt_set ‹_› _ | (rw [World.frozen?_setCell]; assumption)))
          (first | (go_at_call 58; refine (sh_calls _ _ _ _ _ (by decide)).mono ?_; rintro e w' ⟨rfl, ⟨n, rfl⟩⟩))
        all_goals
          go_wp2
          go_roundg kq1
          case measure => omega
          case rel =>
            refine ⟨t + 1, by simp, ⟨by have := HT.out; omega, by have := HQ.out; omega⟩, ⟨?_, below_set (pw_below_drewN HW.out.2 _) (Nat.le_refl _)⟩⟩
            rw [HY.out, ← nxt_wraps y2 y7 y15 y16]
            exact blk_put HW.out.1 t _ (zc_set 64 _ _ _ (sched_len bs t) (by have := HQ.out; omega))
    · have q1' : ¬ (t : Int) < 64 := by omega
      obtain rfl : t = 64 := by have := HT.out; omega
      generalize wr = W1 at *
      have hws := HW.out.1
      have hlt2 := Nat.lt_of_lt_of_le hlt HW.out.2.size
      obtain ⟨s0, s1, s2, s3, s4, s5, s6, s7, rfl⟩ := eight st hst
      have hg2' : W1.heap[g]? = some (.cells (HCells [s0, s1, s2, s3, s4, s5, s6, s7] rv lg) 73 (0, 0)) := (HW.out.2.block g hlt).trans HG.out
      have g0 := blk_cell hg2' 0
      have g1 := blk_cell hg2' 1
      have g2 := blk_cell hg2' 2
      have g3 := blk_cell hg2' 3
      have g4 := blk_cell hg2' 4
      have g5 := blk_cell hg2' 5
      have g6 := blk_cell hg2' 6
      have g7 := blk_cell hg2' 7
      simp [HCells, nums] at g0 g1 g2 g3 g4 g5 g6 g7
      have HG2 := Aside0.mk hg2'
      have HWS := Aside0.mk hws
      clear hg2' hws q1
      go_wp2_with fail
      go_loopg [81] 65 (fun kq v81 w' => ∃ t : Nat, v81 = .int .i64 (t : Int) ∧ Aside0 (t + kq = 65 ∧ t ≤ 64) ∧ Aside0 (w'.heap[W1.heap.size]? = some (.cells (nums .u32 (rounds (sched bs 64) [s0, s1, s2, s3, s4, s5, s6, s7] t)).toArray 71 (0, 0)) ∧ Below W1.heap.size W1 w'))
      case atStart => exact ⟨0, rfl, ⟨rfl, Nat.zero_le _⟩, ⟨heap_alloc_new W1 _, below_alloc (Below.refl _ _) _⟩⟩
      case round =>
        obtain ⟨t, rfl, HT2, HV⟩ := hrel
        clear g0 g1 g2 g3 g4 g5 g6 g7
        by_cases q1 : t < 64
        · obtain ⟨kq1, rfl⟩ : ∃ kq1, gk = kq1 + 1 := ⟨gk - 1, by have := HT2.out; omega⟩
          have q1' : (t : Int) < 64 := by omega
          have hbw := HW.out.2
          have hlen := rounds_len (sched bs 64) [s0, s1, s2, s3, s4, s5, s6, s7] rfl t
          obtain ⟨r, hr⟩ : ∃ r, rounds (sched bs 64) [s0, s1, s2, s3, s4, s5, s6, s7] t = r := ⟨_, rfl⟩
          rw [hr] at HV hlen
          obtain ⟨a, b, c', d, e, f, g', i, rfl⟩ := eight r hlen
          have v0 := blk_cell HV.out.1 0
          have v1 := blk_cell HV.out.1 1
          have v2 := blk_cell HV.out.1 2
          have v3 := blk_cell HV.out.1 3
          have v4 := blk_cell HV.out.1 4
          have v5 := blk_cell HV.out.1 5
          have v6 := blk_cell HV.out.1 6
          have v7 := blk_cell HV.out.1 7
          simp [nums] at v0 v1 v2 v3 v4 v5 v6 v7
          have z0 := blk_frozen HV.out.1 0
          have z4 := blk_frozen HV.out.1 4
          obtain ⟨kt, hkt⟩ : ∃ x, x = rd KS (t : Nat) := ⟨_, rfl⟩
          obtain ⟨wt, hwt⟩ : ∃ x, x = rd (sched bs 64) (t : Nat) := ⟨_, rfl⟩
          have ck : wr.cell? ⟨1, t, none⟩ = some (.int .u32 kt) := by rw [hkt]; exact ((HLd.out.step HW.out.2 (by omega)).step HV.out.2 (by have := HW.out.2.size; omega)).c t q1
          have cw : wr.cell? ⟨w.heap.size, t, none⟩ = some (.int .u32 wt) := by
            have h1 : wr.heap[w.heap.size]? = _ := (HV.out.2.block _ (blk_lt HWS.out)).trans HWS.out
            rw [blk_cell h1 t, zc_cell _ _ (by rw [sched_len]; exact Nat.le_refl _) t q1, rd_left _ _ _ (by rw [sched_len]; exact q1), hwt]
          have HR := Aside0.mk (show rounds (sched bs 64) [s0, s1, s2, s3, s4, s5, s6, s7] (t + 1) = [(tx e f g' i kt wt + ty a b c') % 4294967296, a, b, c', (d + tx e f g' i kt wt) % 4294967296, e, f, g'] from by rw [rounds, hr, hkt, hwt]; rfl)
          have HQ := Aside0.mk q1
          clear hr hkt hwt hlen q1
          go_wp2_with fail
          go_quiet ((go_at_call 59; first | exact quiet_one (same_d (rt_calls _ _ _ _ _ (by decide))) | exact quiet_add (same_d (rt_calls _ _ _ _ _ (by decide)))))
          go_wp2_with (go_at_call 59; (with_reducible refine (rt_calls _ _ _ _ _ (by decide)).mono ?_); rintro e' w' ⟨rfl, rfl⟩)
          have hX : (i + rtI 6 e + Go.bits .xor .u32 (Go.bits .and .u32 e f) (Go.bits .and .u32 (Go.bits .xor .u32 IntKind.u32.max e) g') + kt + wt) % 4294967296 = tx e f g' i kt wt := by unfold tx ch; rw [show rtI 6 e = bigE e from if_pos rfl]
          have hY : (rtI 2 a + Go.bits .xor .u32 (Go.bits .xor .u32 (Go.bits .and .u32 a b) (Go.bits .and .u32 a c')) (Go.bits .and .u32 b c')) % 4294967296 = ty a b c' := by unfold ty mj; rw [show rtI 2 a = bigA a from if_neg (by decide)]
          rw [hX, hY]
          clear hX hY
          have HV2 : Aside0 ((wr.drewN nq).heap[W1.heap.size]? = some (.cells (nums .u32 [a, b, c', d, e, f, g', i]).toArray 71 (0, 0)) ∧ Below W1.heap.size W1 (wr.drewN nq)) := ⟨HV.out.1, pw_below_drewN HV.out.2 nq⟩
          clear v0 v1 v2 v3 v4 v5 v6 v7 z0 z4 ck cw HV
          generalize wr.drewN nq = w2 at *
          have v0 := blk_cell HV2.out.1 0
          have v1 := blk_cell HV2.out.1 1
          have v2 := blk_cell HV2.out.1 2
          have v3 := blk_cell HV2.out.1 3
          have v4 := blk_cell HV2.out.1 4
          have v5 := blk_cell HV2.out.1 5
          have v6 := blk_cell HV2.out.1 6
          simp [nums] at v0 v1 v2 v3 v4 v5 v6
          generalize tx e f g' i kt wt = X at *
          generalize ty a b c' = Y at *
          go_region_law (refine step_copy_mine rfl (.tmp 134) (.tmp 135) 65 65 rfl 66 Tryd.underlying65 size66 (some ⟨W1.heap.size, 1, none⟩) (some ⟨W1.heap.size, 0, none⟩) 7 7 7 8 rfl rfl W1.heap.size 1 (nums .u32 [a, b, c', d, e, f, g', i]) 71 HV2.out.1 (nums .u32 [a, b, c', d, e, f, g']) rfl (fun _ => ⟨rfl, _, rfl, seven_cells v0 v1 v2 v3 v4 v5 v6⟩) (by simp [nums]) (fun v hv => by obtain ⟨x, _, rfl⟩ := List.mem_map.1 hv; rfl) ?_; intro w4 hk4 hg4)
          have HV4 : Aside0 (w4.heap[W1.heap.size]? = some (.cells (nums .u32 [a, a, b, c', d, e, f, g']).toArray 71 (0, 0)) ∧ Below W1.heap.size W1 w4) := ⟨hk4, (pw_below_drewN HV2.out.2 1).grown hg4 HV2.out.2.size (fun k hk => by injection hk with hk; omega)⟩
          clear v0 v1 v2 v3 v4 v5 v6 HV2 hk4 hg4
          have v0 := blk_cell HV4.out.1 0
          have v4 := blk_cell HV4.out.1 4
          simp [nums] at v0 v4
          have z0 := blk_frozen HV4.out.1 0
          have z4 := blk_frozen HV4.out.1 4
          go_wp2
          go_roundg kq1
          case measure => omega
          case rel =>
            refine ⟨t + 1, by simp, ⟨by have := HT2.out; omega, by have := HQ.out; omega⟩, ⟨?_, below_set (below_set HV4.out.2 (Nat.le_refl _)) (Nat.le_refl _)⟩⟩
            rw [HR.out]
            exact blk_put (blk_put HV4.out.1 4 _ rfl) 0 _ rfl
        · have q1' : ¬ (t : Int) < 64 := by omega
          obtain rfl : t = 64 := by have := HT2.out; omega
          clear q1 q1'
          have hW2 := below_step HW.out.2 HV.out.2
          have hgW : wr.heap[g]? = some (.cells (HCells (mixL [s0, s1, s2, s3, s4, s5, s6, s7] (rounds (sched bs 64) [s0, s1, s2, s3, s4, s5, s6, s7] 64) 0) rv lg) 73 (0, 0)) := (hW2.block g hlt).trans HG.out
          have hgv : g ≠ W1.heap.size := fun e => by have := HW.out.2.size; omega
          have HW2 := Aside0.mk hW2
          have HGW := Aside0.mk hgW
          have hRl := rounds_len (sched bs 64) [s0, s1, s2, s3, s4, s5, s6, s7] rfl 64
          have HE := Aside0.mk (show blk [s0, s1, s2, s3, s4, s5, s6, s7] bs = mixL [s0, s1, s2, s3, s4, s5, s6, s7] (rounds (sched bs 64) [s0, s1, s2, s3, s4, s5, s6, s7] 64) 8 from mix_end _ _ rfl hRl)
          generalize rounds (sched bs 64) [s0, s1, s2, s3, s4, s5, s6, s7] 64 = R at *
          have hSl : [s0, s1, s2, s3, s4, s5, s6, s7].length = 8 := rfl
          generalize hS9 : [s0, s1, s2, s3, s4, s5, s6, s7] = S at *
          have HS9 := Aside0.mk hS9
          clear hS9
          have HL := Aside0.mk (And.intro hSl hRl)
          generalize wr = W2 at *
          clear hW2 hgW hRl hSl
          go_wp2_with fail
          go_loopg [147] 9 (fun kq v147 w' => ∃ t : Nat, v147 = .int .i64 (t : Int) ∧ Aside0 (t + kq = 9 ∧ t ≤ 8) ∧ Aside0 (w'.heap[g]? = some (.cells (HCells (mixL S R t) rv lg) 73 (0, 0)) ∧ w'.heap[W1.heap.size]? = some (.cells (nums .u32 R).toArray 71 (0, 0)) ∧ Kept w w' (· = g) ∧ Below g w w'))
          case atStart => exact ⟨0, rfl, ⟨rfl, Nat.zero_le _⟩, ⟨HGW.out, HV.out.1, Kept.of_below HW2.out _, HW2.out.mono (Nat.le_of_lt hlt)⟩⟩
          case round =>
            obtain ⟨t, rfl, HT3, HK⟩ := hrel
            by_cases q1 : t < 8
            · obtain ⟨kq1, rfl⟩ : ∃ kq1, gk = kq1 + 1 := ⟨gk - 1, by have := HT3.out; omega⟩
              have q1' : (t : Int) < 8 := by omega
              have cg := blk_cell HK.out.1 t
              have cv := blk_cell HK.out.2.1 t
              have zg := blk_frozen HK.out.1 t
              rw [hc_cell _ _ _ (mix_len _ _ _ HL.out.1 HL.out.2) t q1, rd_mix _ _ _ HL.out.1 HL.out.2 q1] at cg
              rw [nums_cell .u32 R t (by rw [HL.out.2]; exact q1)] at cv
              obtain ⟨xs, hxs⟩ : ∃ x, rd S (t : Nat) = x := ⟨_, rfl⟩
              obtain ⟨xr, hxr⟩ : ∃ x, rd R (t : Nat) = x := ⟨_, rfl⟩
              rw [hxs] at cg
              rw [hxr] at cv
              have HM := Aside0.mk (show (mixL S R t).set t ((xs + xr) % 4294967296) = mixL S R (t + 1) from by rw [← hxs, ← hxr]; exact mix_set _ _ _ HL.out.1 HL.out.2 q1)
              have HQ := Aside0.mk q1
              clear hxs hxr q1
              go_wp2_with fail
              go_region
              go_wp2
              go_roundg kq1
              case measure => omega
              case rel =>
                refine ⟨t + 1, by simp, ⟨by have := HT3.out; omega, by have := HQ.out; omega⟩, ⟨?_, ?_, ?_, ?_⟩⟩
                · exact blk_put HK.out.1 t _ (by rw [hc_set _ _ _ (mix_len _ _ _ HL.out.1 HL.out.2) t HQ.out, HM.out])
                · exact (Below.heap_setCell wr ⟨g, t, none⟩ _ W1.heap.size (Ne.symm hgv)).trans HK.out.2.1
                · exact Kept.drew (Kept.setCell HK.out.2.2.1 (p := ⟨g, t, none⟩) (.inl rfl) _)
                · exact below_drewB (HK.out.2.2.2.setCell (p := ⟨g, t, none⟩) (Nat.le_refl _) _) 1
            · have q1' : ¬ (t : Int) < 8 := by omega
              obtain rfl : t = 8 := by have := HT3.out; omega
              clear q1 q1'
              go_wp2
              go_end0
              exact ⟨rfl, by rw [HS9.out, HE.out]; exact HK.out.1, HK.out.2.2.1, HK.out.2.2.2⟩
end Go.Proofs.YtdnmllodefbekaaDoor.Sha
end

section
namespace Go.Proofs.YtdnmllodefbekaaDoor.Sha
open Go.RowKit Go.Lib Go.Proofs.YtdnmllodefbekaaDoorW.PrintWords Go.Proofs.YtdnmllodefbekaaDoorW.PrintLast Go.Proofs.YtdnmllodefbekaaDoorW.PrintMore
set_option linter.unusedVariables false
set_option linter.unusedSimpArgs false
section
variable {P : Program}
theorem run_room_str (w : World) (t u ty e : TypeId) (i : TypeInfo) (ht : P.underlying t = some (.slice e)) (hu : P.underlying u = some .string) (hi : P.info? e = some i) (hs1 : i.size = 1)
    (g off sLen sCap : Nat) (cur : Array Value) (hg : w.heap[g]? = some (.cells cur e (0, 0))) (s : ByteArray)
    (hroom : sLen + s.size ≤ sCap) (hfit : off + sLen + s.size ≤ cur.size) :
    (Builtin.append_ #[t, u] ty #[.slice (some ⟨g, off, none⟩) sLen sCap, .string s]).run P w =
      .ok (.slice (some ⟨g, off, none⟩) (sLen + s.size) sCap) (w.setRow g (cur.toList.take (off + sLen) ++ strCells s ++ cur.toList.drop (off + sLen + s.size)).toArray) := by
  have hf := run_firstCells_string (P := P) w 1 s
  have hst := run_storeCells_at P g (off + sLen) e (strCells s) 0 cur w hg (by simpa [strCells_length] using hfit) (strCells_oneCell s)
  simp only [Nat.add_zero, strCells_length] at hst
  simp [Builtin.append_, run_underlying ht, run_underlying hu, sizeOf, typeInfo, hi, hs1, Builtin.lenOf, hroom, hf, add_at, hst]
theorem q_append_str (w : World) (base : Nat) (t u ty e : TypeId) (i : TypeInfo) (ht : P.underlying t = some (.slice e)) (hu : P.underlying u = some .string) (hi : P.info? e = some i) (hz : i.zero = some (.int .u8 0))
    (hsize : i.size = 1) (hby : i.bytes = 1) (v : Value) (n : Nat) (xs : List Value) (hown : QRow w base e 1 v n xs) (s : ByteArray)
    (h63 : n + s.size ≤ maxLen) (hbytes : n + s.size ≤ 140737488355328) (hbase : base ≤ w.heap.size) :
    ∃ v' w', (Builtin.append_ #[t, u] ty #[v, .string s]).run P w = .ok v' w' ∧ QRow w' base e 1 v' (n + s.size) (xs ++ strCells s) ∧ w.grownBy w' v.ownBlock ∧ (v'.ownBlock = v.ownBlock ∨ ∃ b, v'.ownBlock = some b ∧ w.heap.size ≤ b) := by
  have hsmall : n + s.size ≤ 9223372036854775807 := by simp only [maxLen] at h63; omega
  have hxl : xs.length = n := by simpa using hown.1
  have hlen : (xs ++ strCells s).length = (n + s.size) * 1 := by rw [List.length_append, hxl, strCells_length, Nat.mul_one]
  have grows : ∀ (b : Addr) (cap : Nat), cap < n + s.size → (∀ j u, xs[j]? = some u → w.cell? (b.add j) = some u) → v = .slice (some b) n cap →
      ∃ v' w', (Builtin.append_ #[t, u] ty #[v, .string s]).run P w = .ok v' w' ∧ QRow w' base e 1 v' (n + s.size) (xs ++ strCells s) ∧ w.grownBy w' v.ownBlock ∧ (v'.ownBlock = v.ownBlock ∨ ∃ b, v'.ownBlock = some b ∧ w.heap.size ≤ b) := by
    intro b cap hcap hcells hv
    have hr := run_append_grow_string (P := P) w t u ty e i (.int .u8 0) ht hu hi hz b n cap xs (by rw [hsize]; simpa using hxl) hcells s hcap (by omega) (by rw [hby]; exact growslice_fits (by omega) (by omega))
    have hge := grownCap_ge w (n + s.size) cap e
    have hcm : grownCap w (n + s.size) cap e ≤ maxLen := grownCap_le_maxLen w (n + s.size) cap e h63
    subst hv
    refine ⟨_, _, hr, ?_, ⟨rfl, rfl, rfl, by simp, fun k hk _ => Below.heap_alloc w.drew _ k hk⟩, .inr ⟨w.heap.size, by simp [Value.ownBlock], Nat.le_refl _⟩⟩
    refine q_lower (base := w.heap.size) (q_of_own ⟨hlen, .inr ⟨w.heap.size, _, _, rfl, Nat.le_refl _, heap_alloc_new w.drew _, hge, hcm, ?_, ?_⟩⟩) hbase
    · have hz1 : (Value.int IntKind.u8 0).cells.size = 1 := rfl
      simp only [Array.size_append, List.size_toArray, size_zeroCells, hz1, hxl, strCells_length]
      omega
    · simp only [Array.toList_append, List.append_assoc]
      rw [← List.append_assoc, ← hlen]
      exact List.take_left
  rcases hown.2 with ⟨h0, A, hv, hA⟩ | ⟨g, off, cap, cur, hv, hbg, hg, hnc, hcm, hcs, htake⟩
  · cases A with
    | none =>
      subst h0
      have ho : w.ownsRow w.heap.size e 1 v 0 xs := ⟨hown.1, .inl ⟨hv, rfl⟩⟩
      obtain ⟨v', w', hr, ho', hg, _⟩ := run_append_own_string (P := P) w w.heap.size t u ty e i ht hu hi hz hsize hby v 0 xs ho s h63 hbytes (Nat.le_refl _)
      refine ⟨v', w', hr, q_lower (q_of_own ho') hbase, hg, ?_⟩
      cases hb : v'.ownBlock with
      | none => exact .inl (by rw [hv]; rfl)
      | some k => exact .inr ⟨k, rfl, own_base ho' k hb⟩
    | some b =>
      have hx : xs = [] := List.eq_nil_of_length_eq_zero (by rw [hown.1, h0, Nat.zero_mul])
      by_cases hs0 : s.size = 0
      · subst h0
        have hn : strCells s = [] := List.eq_nil_of_length_eq_zero (by rw [strCells_length]; exact hs0)
        refine ⟨v, w, ?_, by rw [hs0, hn, List.append_nil]; exact hown, ⟨rfl, rfl, rfl, Nat.le_refl _, fun _ _ _ => rfl⟩, .inl rfl⟩
        have hf := run_firstCells_string (P := P) w 1 s
        rw [hs0] at hf
        rw [hv]
        simp [Builtin.append_, run_underlying ht, run_underlying hu, sizeOf, typeInfo, hi, hsize, Builtin.lenOf, hs0, hf, hn, storeCells]
      · exact grows b 0 (by omega) (fun j u hu => by rw [hx] at hu; simp at hu) (by rw [hv, h0])
  · rw [Nat.mul_one] at hv htake
    rw [Nat.mul_one] at hcs
    rw [Nat.mul_one] at htake
    by_cases hroom : n + s.size ≤ cap
    · have hr := run_room_str (P := P) w t u ty e i ht hu hi hsize g off n cap cur hg s hroom (by omega)
      refine ⟨_, _, by rw [hv]; exact hr, ⟨hlen, .inr ⟨g, off, cap, _, by rw [Nat.mul_one], hbg, setRow_heap w g cur _ e _ hg, hroom, hcm, ?_, ?_⟩⟩, ⟨rfl, rfl, rfl, by simp [World.setRow], fun k _ hk => setRow_other w g k _ (fun e => hk (by rw [hv, e]; simp [Value.ownBlock]))⟩, .inl (by rw [hv]; rfl)⟩
      · simp only [List.size_toArray, List.length_append, List.length_take, List.length_drop, Array.length_toList, strCells_length]
        omega
      · simp only [Nat.mul_one]
        rw [List.append_assoc, List.drop_append_of_le_length (by rw [List.length_take, Array.length_toList]; omega), List.drop_take]
        rw [show off + n - off = n by omega, htake, ← List.append_assoc]
        exact List.take_left' (by rw [List.length_append, hxl, strCells_length])
    · refine grows ⟨g, off, none⟩ cap (by omega) (fun j u hu => ?_) hv
      rw [add_at, cell_of_row w g _ cur e (0, 0) hg]
      rw [← htake, List.getElem?_take] at hu
      split at hu
      · rw [List.getElem?_drop] at hu
        rw [← Array.getElem?_toList]
        exact hu
      · cases hu
/-- The operation, for the walk. -/
theorem print_q_str {w0 W : World} {ops : Array Oper} {rest : List Oper} {o : Oper} {a : Act} {Q : Exit → Act → World → Prop} (base : Nat) (hgd : o.guard = none) (s x : Operand) (t u e : TypeId)
    (ho : o.op = .call { callee := .builtin .append, args := #[s, x], argTypes := #[t, u] })
    (ht : P.underlying t = some (.slice e)) (hu : P.underlying u = some .string) (hinfo : (P.info? e).map (fun i => (i.zero, i.size, i.bytes)) = some (some (.int .u8 0), 1, 1))
    (v : Value) (xs : List Int) (y : ByteArray) (hs : a.eval s = v) (hx : a.eval x = .string y)
    (HO : QRow W base e 1 v xs.length (nums .u8 xs)) (HB : Below base w0 W) (hbase : base ≤ W.heap.size) (hl : xs.length + y.size ≤ 140737488355328)
    (h : ∀ v1 w1, QRow w1 base e 1 v1 (xs ++ bytesOf y).length (nums .u8 (xs ++ bytesOf y)) → Below base w0 w1 → W.grownBy w1 v.ownBlock → (v1.ownBlock = v.ownBlock ∨ ∃ b, v1.ownBlock = some b ∧ W.heap.size ≤ b) → wpList P ops Q rest (a.put o.dst v1) w1) :
    wpList P ops Q (o :: rest) a W := by
  obtain ⟨i0, hi, hzz⟩ := Option.map_eq_some_iff.1 hinfo
  simp only [Prod.mk.injEq] at hzz
  obtain ⟨hz0, hz1, hz2⟩ := hzz
  obtain ⟨v', w', hr, h2, h3, h4⟩ := q_append_str (P := P) W base t u o.type e i0 ht hu hi hz0 hz1 hz2 v xs.length (nums .u8 xs) HO y (by simp only [maxLen]; omega) hl hbase
  refine wpList_plain hgd fun K hK => ?_
  unfold Oper.wp execOp
  simp only [ho, resolve, invoke, builtin, Sem.run_bind, Sem.run_pure, Result.andThen_ok, List.map_toArray, List.map_cons, List.map_nil, hs, hx, hr]
  have e1 : nums .u8 xs ++ strCells y = nums .u8 (xs ++ bytesOf y) := by
    unfold nums strCells bytesOf
    simp
  have e2 : xs.length + y.size = (xs ++ bytesOf y).length := by rw [List.length_append, bytesOf_length]
  rw [e1, e2] at h2
  exact hK _ _ (h v' w' h2 (HB.grown h3 hbase fun k hk => (q_typed HO k hk).1) h3 h4)
end
end Go.Proofs.YtdnmllodefbekaaDoor.Sha
end

section
namespace Go.Proofs.YtdnmllodefbekaaDoor.Sha
open Go.RowKit Go.Lib Go.Proofs.YtdnmllodefbekaaDoorW.PrintWords Go.Proofs.YtdnmllodefbekaaDoorW.PrintLast Go.Proofs.YtdnmllodefbekaaDoorW.PrintMore
set_option linter.unusedVariables false
set_option linter.unusedSimpArgs false
/-- A hash: its block, its state's words, the bytes that are left, the count. -/
structure IsH (w0 W : World) (g : Nat) (rv : Value) (st rest : List Int) (lg : Int) : Prop where
  ge : w0.heap.size ≤ g
  len : st.length = 8
  blk : W.heap[g]? = some (.cells (HCells st rv lg) 73 (0, 0))
  row : QRow W w0.heap.size 5 1 rv rest.length (nums .u8 rest)
/-- What a hash's call leaves as it was: all but its block and its row's. -/
def HKept (w W : World) (g : Nat) (rv rv' : Value) : Prop := Kept w W (fun k => k = g ∨ rv.ownBlock = some k) ∧ ∀ k, rv'.ownBlock = some k → rv.ownBlock = some k ∨ w.heap.size ≤ k
def absorb : Nat → List Int → List Int → List Int × List Int
  | 0, st, xs => (st, xs)
  | k + 1, st, xs => if 64 ≤ xs.length then absorb k (blk st (xs.take 64)) (xs.drop 64) else (st, xs)
theorem hc8 (st : List Int) (rv : Value) (lg : Int) (h : st.length = 8) : (HCells st rv lg)[8]? = some rv := by
  unfold HCells nums
  simp [List.getElem?_append, h]
theorem hc9 (st : List Int) (rv : Value) (lg : Int) (h : st.length = 8) : (HCells st rv lg)[9]? = some (.int .u64 lg) := by
  unfold HCells nums
  simp [List.getElem?_append, h]
theorem hs8 (st : List Int) (rv rv' : Value) (lg : Int) (h : st.length = 8) : (HCells st rv lg).setIfInBounds 8 rv' = HCells st rv' lg := by
  unfold HCells nums
  apply Array.ext'
  simp [List.set_append, h]
theorem hs9 (st : List Int) (rv : Value) (lg lg' : Int) (h : st.length = 8) : (HCells st rv lg).setIfInBounds 9 (.int .u64 lg') = HCells st rv lg' := by
  unfold HCells nums
  apply Array.ext'
  simp [List.set_append, h]
theorem IsH.ne {w0 W : World} {g : Nat} {rv : Value} {st rest : List Int} {lg : Int} (h : IsH w0 W g rv st rest lg) : ∀ k, rv.ownBlock = some k → k ≠ g := fun k hk e => by
  obtain ⟨_, c, hc⟩ := q_typed h.row k hk
  rw [e, h.blk] at hc; injection hc with hc; injection hc with _ hc; exact absurd hc (by decide)
theorem IsH.kept {w0 W W1 : World} {g : Nat} {rv : Value} {st rest : List Int} {lg : Int} {S : Nat → Prop} (h : IsH w0 W g rv st rest lg) (hk : Kept W W1 S) (hg : ¬ S g) (hr : ∀ k, rv.ownBlock = some k → ¬ S k) : IsH w0 W1 g rv st rest lg :=
  ⟨h.ge, h.len, blk_kept h.blk hk hg, q_move h.row fun k hk2 => hk.2 k (q_lt h.row k hk2) (hr k hk2)⟩
theorem IsH.below {w0 W W1 : World} {g : Nat} {rv : Value} {st rest : List Int} {lg : Int} (h : IsH w0 W g rv st rest lg) (hb : Below W.heap.size W W1) : IsH w0 W1 g rv st rest lg :=
  h.kept (Kept.of_below hb (fun _ => False)) (fun h => h) (fun _ _ h => h)
theorem info5 : (Tryd.prog.info? 5).map (fun i => (i.zero, i.size, i.bytes)) = some (some (.int .u8 0), 1, 1) := by kernel_rfl
theorem elem32 : Tryd.prog.elem 32 = 5 := by simp [Program.elem, Tryd.underlying32]
theorem cut_h (A : Option Addr) (n c : Nat) (h : 64 ≤ c) (W : World) : (Instr.slice 32 (.slice A n c) none (some (.int .i64 64)) none).run Tryd.prog W = .ok (.slice A 64 c) W := by
  obtain ⟨i0, hi, hzz⟩ := Option.map_eq_some_iff.1 info5
  simp only [Prod.mk.injEq] at hzz
  rw [run_slice_h W 32 A n c (by rw [elem32]; exact Tryd.underlying32) .i64 _ (by decide) (by omega)]
  cases A with
  | none => simp [sizeOf, typeInfo, elem32, hi, hzz.2.1, sliced, Result.andThen]
  | some a => simp [sizeOf, typeInfo, elem32, hi, hzz.2.1, sliced, Result.andThen, Addr.add]
theorem cut_l (A : Option Addr) (n c : Nat) (h : 64 ≤ n) (hc : n ≤ c) (W : World) : (Instr.slice 32 (.slice A n c) (some (.int .i64 64)) none none).run Tryd.prog W = .ok (.slice (if c = 64 then A else A.map (·.add (64 * 1))) (n - 64) (c - 64)) W := by
  obtain ⟨i0, hi, hzz⟩ := Option.map_eq_some_iff.1 info5
  simp only [Prod.mk.injEq] at hzz
  rw [run_slice_l W 32 A n c (by rw [elem32]; exact Tryd.underlying32) .i64 (64 : Int) (by decide) (by omega)]
  simp [sizeOf, typeInfo, elem32, hi, hzz.2.1, sliced, Result.andThen]
def WritePost (w0 w : World) (g : Nat) (rv : Value) (st' rest' : List Int) (lg' : Int) (e : Ending) (w' : World) : Prop :=
  e = .returned (.tuple #[]) ∧ ∃ rv', IsH w0 w' g rv' st' rest' lg' ∧ HKept w w' g rv rv' ∧ Below w0.heap.size w0 w'
theorem write_grown {w0 w W1 : World} {g : Nat} {rv : Value} {st rest : List Int} {lg lg' : Int} (hI : IsH w0 w g rv st rest lg) (h1 : (w.setCell ⟨g, 9, none⟩ (.int .u64 lg')).heap[g]? = some (.cells (HCells st rv lg') 73 (0, 0))) (hg : (w.setCell ⟨g, 9, none⟩ (.int .u64 lg')).grownBy W1 rv.ownBlock) :
    W1.heap[g]? = some (.cells (HCells st rv lg') 73 (0, 0)) ∧ Kept w W1 (fun k => k = g ∨ rv.ownBlock = some k) :=
  ⟨(hg.block g (blk_lt h1) fun e => hI.ne g e.symm rfl).trans h1, ⟨Nat.le_trans (by simp [World.setCell]) hg.size, fun i hi hn => (hg.block i (by simpa [World.setCell] using hi) fun e => hn (.inr e.symm)).trans (Below.heap_setCell w ⟨g, 9, none⟩ _ i fun e => hn (.inl e))⟩⟩
theorem write_start {w0 w W1 : World} {g : Nat} {rv v1 : Value} {st rest all : List Int} {lg lg' : Int} (hI : IsH w0 w g rv st rest lg) (h1 : W1.heap[g]? = some (.cells (HCells st rv lg') 73 (0, 0)) ∧ Kept w W1 (fun k => k = g ∨ rv.ownBlock = some k))
    (hq : QRow W1 w0.heap.size 5 1 v1 all.length (nums .u8 all)) (hB : Below w0.heap.size w0 W1) (hat : v1.ownBlock = rv.ownBlock ∨ ∃ b, v1.ownBlock = some b ∧ (w.setCell ⟨g, 9, none⟩ (.int .u64 lg')).heap.size ≤ b) (hsz : w0.heap.size ≤ w.heap.size) :
    IsH w0 (W1.setCell ⟨g, 8, none⟩ v1) g v1 st all lg' ∧ HKept w (W1.setCell ⟨g, 8, none⟩ v1) g rv v1 ∧ Below w0.heap.size w0 (W1.setCell ⟨g, 8, none⟩ v1) := by
  have hne : ∀ k, v1.ownBlock = some k → k ≠ g := fun k hk e => by
    obtain ⟨_, c, hc⟩ := q_typed hq k hk
    rw [e, h1.1] at hc; injection hc with hc; injection hc with _ hc; exact absurd hc (by decide)
  refine ⟨⟨hI.ge, hI.len, blk_put h1.1 8 _ (hs8 _ _ _ _ hI.len), q_move hq fun k hk => Below.heap_setCell W1 ⟨g, 8, none⟩ _ k (hne k hk)⟩, ⟨Kept.setCell h1.2 (p := ⟨g, 8, none⟩) (.inl (.inl rfl)) _, fun k hk => ?_⟩, below_set hB hI.ge⟩
  rcases hat with hat | ⟨b, hb, hle⟩
  · exact .inl (by rw [← hat]; exact hk)
  · rw [hb] at hk; injection hk with hk
    exact .inr (by rw [← hk]; simpa [World.setCell] using hle)
theorem reads64 {w : World} {base c : Nat} {A : Option Addr} {xs : List Int} (h : QRow w base 5 1 (.slice A xs.length c) xs.length (nums .u8 xs)) (hx : 64 ≤ xs.length) : ReadsInt w .u8 A 64 (xs.take 64) := by
  have h1 := q_take h hx
  obtain ⟨ad, rfl, hc⟩ := q_cells h1 (by decide)
  refine ⟨by rw [List.length_take]; omega, by decide, fun _ => ⟨ad, rfl, fun j hj => hc j _ ?_⟩⟩
  rw [Nat.mul_one, List.getElem?_take, if_pos hj]
  simp [nums, List.getD_eq_getElem?_getD, hj, show j < xs.length by omega]
theorem write_step {w0 w W W3 : World} {g k : Nat} {rv : Value} {A A3 : Option Addr} {st xs : List Int} {lg : Int} (h : IsH w0 W g (.slice A xs.length k) st xs lg ∧ HKept w W g rv (.slice A xs.length k) ∧ Below w0.heap.size w0 W)
    (hb : W3.heap[g]? = some (.cells (HCells (blk st (xs.take 64)) (.slice A xs.length k) lg) 73 (0, 0))) (hk : Kept W W3 (· = g) ∧ Below g W W3) (hx : 64 ≤ xs.length) (hA3 : (if k = 64 then A else A.map (·.add (64 * 1))) = A3) :
    IsH w0 (W3.setCell ⟨g, 8, none⟩ (.slice A3 (xs.length - 64) (k - 64))) g (.slice A3 (xs.length - 64) (k - 64)) (blk st (xs.take 64)) (xs.drop 64) lg ∧ HKept w (W3.setCell ⟨g, 8, none⟩ (.slice A3 (xs.length - 64) (k - 64))) g rv (.slice A3 (xs.length - 64) (k - 64)) ∧ Below w0.heap.size w0 (W3.setCell ⟨g, 8, none⟩ (.slice A3 (xs.length - 64) (k - 64))) := by
  obtain ⟨hI, ⟨hK, hat⟩, hB⟩ := h
  obtain ⟨hk, hbl⟩ := hk
  have hob : (Value.slice A3 (xs.length - 64) (k - 64)).ownBlock = (Value.slice A xs.length k).ownBlock := by
    rw [← hA3]
    cases A with
    | none => split <;> rfl
    | some a => split <;> simp [Value.ownBlock, Option.map, add_block]
  have hr3 : QRow W3 w0.heap.size 5 1 (.slice A xs.length k) xs.length (nums .u8 xs) := q_move hI.row fun j hj => hk.2 j (q_lt hI.row j hj) (hI.ne j hj)
  have hd := q_drop hr3 hx
  rw [hA3, Nat.mul_one] at hd
  have hn : (nums .u8 xs).drop 64 = nums .u8 (xs.drop 64) := by simp [nums, List.map_drop]
  rw [hn] at hd
  have hl : (xs.drop 64).length = xs.length - 64 := List.length_drop
  have hne : ∀ j, (Value.slice A3 (xs.length - 64) (k - 64)).ownBlock = some j → j ≠ g := fun j hj => hI.ne j (by rw [← hob]; exact hj)
  refine ⟨⟨hI.ge, blk_len _ _ hI.len, blk_put hb 8 _ (hs8 _ _ _ _ (blk_len _ _ hI.len)), ?_⟩, ⟨Kept.setCell (hK.then_ hk fun j hj => .inl (.inl hj)) (p := ⟨g, 8, none⟩) (.inl (.inl rfl)) _, fun j hj => hat j (by rw [← hob]; exact hj)⟩, below_set (hB.trans (hbl.mono hI.ge)) hI.ge⟩
  rw [hl]
  exact q_move hd fun j hj => Below.heap_setCell W3 ⟨g, 8, none⟩ _ j (hne j hj)
set_option maxRecDepth 100000 in
set_option maxHeartbeats 8000000 in
theorem write_walk (g : Nat) (rv : Value) (st rest : List Int) (lg : Int) (b : ByteArray) (w0 w : World) (hI : IsH w0 w g rv st rest lg) (hL : Laid w0) (h2 : 2 ≤ w0.heap.size) (hB : Below w0.heap.size w0 w) (hr : rest.length ≤ 1000000000) (hb : b.size ≤ 1000000000) :
    Calls Tryd.prog 18 #[.pointer (some ⟨g, 0, none⟩), .string b] w (WritePost w0 w g rv (absorb ((rest ++ bytesOf b).length + 1) st (rest ++ bytesOf b)).1 (absorb ((rest ++ bytesOf b).length + 1) st (rest ++ bytesOf b)).2 (IntKind.u64.wrap (lg + (b.size : Int)))) := by
  have c9 := (blk_cell hI.blk 9).trans (hc9 st rv lg hI.len)
  have c8 := (blk_cell hI.blk 8).trans (hc8 st rv lg hI.len)
  have f9 := blk_frozen hI.blk 9
  have f8 := blk_frozen hI.blk 8
  obtain ⟨all, hall⟩ : ∃ all, rest ++ bytesOf b = all := ⟨_, rfl⟩
  have hal : all.length = rest.length + b.size := by rw [← hall, List.length_append, bytesOf_length]
  rw [hall]
  obtain ⟨r, hres⟩ : ∃ r, absorb (all.length + 1) st all = r := ⟨_, rfl⟩
  rw [hres]
  have HRes := Aside0.mk hres
  have HAll := Aside0.mk (And.intro hall hal)
  obtain ⟨lg', hlg⟩ : ∃ x, IntKind.u64.wrap (lg + (b.size : Int)) = x := ⟨_, rfl⟩
  rw [hlg]
  have HI := Aside0.mk hI
  have HL := Aside0.mk hL
  have HB := Aside0.mk hB
  have hlt := blk_lt hI.blk
  have HW1 : Aside0 ((w.setCell ⟨g, 9, none⟩ (.int .u64 lg')).heap[g]? = some (.cells (HCells st rv lg') 73 (0, 0)) ∧ QRow (w.setCell ⟨g, 9, none⟩ (.int .u64 lg')) w0.heap.size 5 1 rv rest.length (nums .u8 rest) ∧ Below w0.heap.size w0 (w.setCell ⟨g, 9, none⟩ (.int .u64 lg'))) :=
    ⟨blk_put hI.blk 9 _ (hs9 _ _ _ _ hI.len), q_move hI.row fun k hk => Below.heap_setCell w ⟨g, 9, none⟩ _ k (hI.ne k hk), below_set hB hI.ge⟩
  clear hI hL hB hres hall hal
  go_enter Tryd.func18, Tryd.ntmps18
  go_wp2_with (first | ((with_reducible refine gate_builtin (b := .append) (xs := #[.tmp 18, .tmp 19]) rfl ?_); at_builtin; refine print_q_str (w0 := w0) w0.heap.size rfl (.tmp 18) (.tmp 19) 32 9 5 rfl Tryd.underlying32 Tryd.underlying9 info5 rv rest b rfl rfl HW1.out.2.1 HW1.out.2.2 HW1.out.2.2.size (by omega) ?_; intro v1 w1 ho1 hB1 hg1 hat1; rw [HAll.out.1] at ho1; obtain ⟨A1, k1, rfl, hnk⟩ := q_slice ho1; have HV := Aside0.mk (write_grown HI.out HW1.out.1 hg1); have f8 := blk_frozen HV.out.1 8; have c8 := (blk_cell HV.out.1 8).trans (hc8 st rv lg' HI.out.len); have H2 := Aside0.mk (write_start HI.out HV.out ho1 hB1 hat1 HB.out.size); clear ho1 hB1 hg1 hat1 c9 f9))
  clear c8 f8 HW1 hnk
  generalize (w1.setCell ⟨g, 8, none⟩ (.slice A1 all.length k1)) = w2 at *
  go_loopg [23] (all.length + 1) (fun kq v23 w' => ∃ (rv2 : Value) (st2 xs : List Int), Aside0 (absorb kq st2 xs = r ∧ xs.length < kq ∧ xs.length ≤ 2000000000) ∧ Aside0 (IsH w0 w' g rv2 st2 xs lg' ∧ HKept w w' g rv rv2 ∧ Below w0.heap.size w0 w'))
  case atStart => exact ⟨_, st, all, ⟨HRes.out, Nat.lt_succ_self _, by have := HAll.out; omega⟩, ⟨H2.out⟩⟩
  case round =>
    obtain ⟨rv2, st2, xs, HA, HH⟩ := hrel
    clear H2
    cases gk with
    | zero => exact absurd HA.out.2.1 (by omega)
    | succ kq1 =>
      obtain ⟨hA1, hA2, hA3⟩ := HA.out
      obtain ⟨A2, k2, rfl, hk2⟩ := q_slice HH.out.1.row
      have c8 := (blk_cell HH.out.1.blk 8).trans (hc8 _ _ _ HH.out.1.len)
      have f8 := blk_frozen HH.out.1.blk 8
      unfold absorb at hA1
      by_cases q1 : 64 ≤ xs.length
      · rw [if_pos q1] at hA1
        have q1' : (64 : Int) ≤ (xs.length : Int) := by omega
        have HA1 := Aside0.mk hA1
        have HQ := Aside0.mk q1
        have hcut := fun W => cut_h A2 xs.length k2 (by omega) W
        clear hA1 q1 HA
        go_wp2_with fail
        have hg2 : 2 ≤ g := Nat.le_trans h2 HI.out.ge
        refine (block_walk g st2 (.slice A2 xs.length k2) lg' A2 k2 (xs.take 64) wr (HL.out.step HH.out.2.2 h2) hg2 HH.out.1.blk HH.out.1.len (reads64 HH.out.1.row HQ.out) (by have := HQ.out; omega) (fun ad hA => HH.out.1.ne ad.block (by rw [hA]; rfl))).mono ?_
        rintro e w3 ⟨rfl, hb3, hk3⟩
        obtain ⟨A3, hA3⟩ : ∃ A3, (if k2 = 64 then A2 else A2.map (·.add (64 * 1))) = A3 := ⟨_, rfl⟩
        have H3 := Aside0.mk (write_step HH.out hb3 hk3 HQ.out hA3)
        have hcut2 := fun W => cut_l A2 xs.length k2 HQ.out hk2 W
        rw [hA3] at hcut2
        have c8 := (blk_cell hb3 8).trans (hc8 _ _ _ (blk_len _ _ HH.out.1.len))
        have f8 := blk_frozen hb3 8
        have HA4 := Aside0.mk (And.intro hA2 hA3)
        clear hb3 hk3 hA3 hcut HH hA2
        go_wp2_with fail
        go_roundg kq1
        case measure => omega
        case rel => exact ⟨_, _, xs.drop 64, ⟨HA1.out, by rw [List.length_drop]; have := HA4.out.1; omega, by rw [List.length_drop]; omega⟩, ⟨H3.out⟩⟩
      · rw [if_neg q1] at hA1
        have q1' : (xs.length : Int) < 64 := by omega
        clear q1
        go_wp2
        go_end0
        subst hA1
        exact ⟨rfl, _, HH.out.1, HH.out.2.1, HH.out.2.2⟩
end Go.Proofs.YtdnmllodefbekaaDoor.Sha
end

section
namespace Go.Proofs.YtdnmllodefbekaaDoor.Sha
open Go.RowKit Go.Lib Go.Proofs.YtdnmllodefbekaaDoorW.PrintWords Go.Proofs.YtdnmllodefbekaaDoorW.PrintLast Go.Proofs.YtdnmllodefbekaaDoorW.PrintMore
set_option linter.unusedVariables false
set_option linter.unusedSimpArgs false
theorem new_walk (w0 w : World) (hL : Laid w) (hB : Below w0.heap.size w0 w) :
    Calls Tryd.prog 17 #[] w fun e w' => e = .returned (.pointer (some ⟨w.heap.size, 0, none⟩)) ∧ IsH w0 w' w.heap.size (.slice none 0 0) HS [] 0 ∧ Below w.heap.size w w' := by
  have b0 := hL.b 0 (by decide)
  have b1 := hL.b 1 (by decide)
  have b2 := hL.b 2 (by decide)
  have b3 := hL.b 3 (by decide)
  have b4 := hL.b 4 (by decide)
  have b5 := hL.b 5 (by decide)
  have b6 := hL.b 6 (by decide)
  have b7 := hL.b 7 (by decide)
  simp only [HS, rd, Int.toNat_natCast, List.getD_cons_zero, List.getD_cons_succ] at b0 b1 b2 b3 b4 b5 b6 b7
  have hs := hB.size
  clear hL
  go_enter Tryd.func17, Tryd.ntmps17
  go_wp2
  go_ret
  exact ⟨rfl, ⟨hs, rfl, heap_alloc_new w _, q_of_own (World.ownsRow_nil _ _ _ _)⟩, below_alloc (Below.refl _ _) _⟩
theorem reads_all {w : World} {base c : Nat} {A : Option Addr} {xs : List Int} (h : QRow w base 5 1 (.slice A xs.length c) xs.length (nums .u8 xs)) : Kd.C (Kd.int .u8) w A xs.length xs := by
  refine Kd.C_of_reads (enc := Value.int .u8) (d := 0) (h1 := fun _ => rfl) ⟨rfl, q_max h, fun hn => ?_⟩
  obtain ⟨ad, rfl, hc⟩ := q_cells h hn
  refine ⟨ad, rfl, fun j hj => hc j _ ?_⟩
  simp [nums, List.getD_eq_getElem?_getD, hj]
theorem empty_own (W : World) (base : Nat) (hb : base ≤ W.heap.size) : Kd.R (Kd.int .u8) 5 (W.alloc (.cells #[] 5)) base (fun _ => True) (.slice (some ⟨W.heap.size, 0, none⟩) 0 0) [] :=
  Kd.R_of_own ⟨rfl, .inr ⟨W.heap.size, 0, #[], rfl, hb, heap_alloc_new W _, Nat.le_refl _, by decide, rfl, rfl⟩⟩ fun _ _ => trivial
theorem grown_cells {W w1 : World} {row : Option Nat} (h : W.grownBy w1 row) : ∀ b o, b < W.heap.size → some b ≠ row → w1.cell? ⟨b, o, none⟩ = W.cell? ⟨b, o, none⟩ := fun b o hb hn => World.cell?_of_block (h.block b hb hn)
theorem grown_frozen {W w1 : World} {row : Option Nat} (h : W.grownBy w1 row) : ∀ b o, b < W.heap.size → some b ≠ row → w1.frozen? ⟨b, o, none⟩ = W.frozen? ⟨b, o, none⟩ := fun b o hb hn => World.frozen?_of_block (h.block b hb hn)
theorem end_facts {W w1 : World} {row : Option Nat} {e : Nat} (hg : W.grownBy w1 row) (he : W.heap[e]? = some (.cells #[.int .u32 0, .int .u32 0, .int .u32 0, .int .u32 0, .int .u32 0, .int .u32 0, .int .u32 0, .int .u32 0, .slice none 0 0, .int .u64 0] 73 (0, 0))) (hne : some e ≠ row) : w1.heap[e]? = some (.cells #[.int .u32 0, .int .u32 0, .int .u32 0, .int .u32 0, .int .u32 0, .int .u32 0, .int .u32 0, .int .u32 0, .slice none 0 0, .int .u64 0] 73 (0, 0)) ∧ w1.cell? ⟨e, 0, none⟩ = some (.int .u32 0) ∧ w1.frozen? ⟨e, 0, none⟩ = false ∧ w1.cell? ⟨e, 1, none⟩ = some (.int .u32 0) ∧ w1.frozen? ⟨e, 1, none⟩ = false ∧ w1.cell? ⟨e, 2, none⟩ = some (.int .u32 0) ∧ w1.frozen? ⟨e, 2, none⟩ = false ∧ w1.cell? ⟨e, 3, none⟩ = some (.int .u32 0) ∧ w1.frozen? ⟨e, 3, none⟩ = false ∧ w1.cell? ⟨e, 4, none⟩ = some (.int .u32 0) ∧ w1.frozen? ⟨e, 4, none⟩ = false ∧ w1.cell? ⟨e, 5, none⟩ = some (.int .u32 0) ∧ w1.frozen? ⟨e, 5, none⟩ = false ∧ w1.cell? ⟨e, 6, none⟩ = some (.int .u32 0) ∧ w1.frozen? ⟨e, 6, none⟩ = false ∧ w1.cell? ⟨e, 7, none⟩ = some (.int .u32 0) ∧ w1.frozen? ⟨e, 7, none⟩ = false ∧ w1.cell? ⟨e, 8, none⟩ = some (.slice none 0 0) ∧ w1.frozen? ⟨e, 8, none⟩ = false ∧ w1.cell? ⟨e, 9, none⟩ = some (.int .u64 0) ∧ w1.frozen? ⟨e, 9, none⟩ = false := by
  have h := (hg.block e (blk_lt he) hne).trans he
  exact ⟨h, blk_cell h 0, blk_frozen h 0, blk_cell h 1, blk_frozen h 1, blk_cell h 2, blk_frozen h 2, blk_cell h 3, blk_frozen h 3, blk_cell h 4, blk_frozen h 4, blk_cell h 5, blk_frozen h 5, blk_cell h 6, blk_frozen h 6, blk_cell h 7, blk_frozen h 7, blk_cell h 8, blk_frozen h 8, blk_cell h 9, blk_frozen h 9⟩
theorem heap_alloc_old_ (w : World) (o o2 : Obj) : ((w.alloc o).alloc o2).drew.heap[w.heap.size]? = some o := (Below.heap_alloc (w.alloc o) o2 w.heap.size (by simp)).trans (heap_alloc_new w o)
theorem cell_keep_far {W : World} {e j g o : Nat} {v u : Value} (hne : g ≠ e) (h : W.cell? ⟨g, o, none⟩ = some u) : (W.setCell ⟨e, j, none⟩ v).cell? ⟨g, o, none⟩ = some u := (World.cell?_setCell_far W _ _ v (fun h_ => hne h_.symm)).trans h
theorem cell_keep_alloc {W : World} {g o : Nat} {O : Obj} {u : Value} (h : W.cell? ⟨g, o, none⟩ = some u) : (W.alloc O).cell? ⟨g, o, none⟩ = some u := cell?_alloc_some O h
theorem cell_keep_drew {W : World} {g o : Nat} {u : Value} (h : W.cell? ⟨g, o, none⟩ = some u) : W.drew.cell? ⟨g, o, none⟩ = some u := h
theorem heap_two (w : World) (o o2 : Obj) : ((w.alloc o).alloc o2).drew.heap[w.heap.size + 1]? = some o2 := by
  have h := heap_alloc_new (w.alloc o) o2
  rw [show (w.alloc o).heap.size = w.heap.size + 1 by simp] at h
  exact h
theorem below_two (w : World) (o : Obj) : Below w.heap.size w (w.drew.alloc o) := below_alloc (pw_below_drewN (Below.refl _ _) 1) o
/-- A word's four bytes, the highest first; a count's eight; a state's; what is put behind the bytes; the digest. -/
def wordB (x : Int) : List Int := [x / 16777216 % 256, x / 65536 % 256, x / 256 % 256, x % 256]
def lenB (L : Int) : List Int := [L / 72057594037927936 % 256, L / 281474976710656 % 256, L / 1099511627776 % 256, L / 4294967296 % 256, L / 16777216 % 256, L / 65536 % 256, L / 256 % 256, L % 256]
def outL : List Int → List Int
  | [] => []
  | x :: l => wordB x ++ outL l
def zs (rl : Nat) : Nat := (119 - rl) % 64
def padS (rl : Nat) (lg : Int) : List Int := (128 :: List.replicate (zs rl) 0) ++ lenB (IntKind.u64.wrap (8 * lg))
def sumL (st rest : List Int) (lg : Int) : List Int := outL (absorb ((rest ++ padS rest.length lg).length + 1) st (rest ++ padS rest.length lg)).1
theorem pad_kept {w0 W W1 : World} {e : Nat} {rv v : Value} {st rest xs : List Int} {lg : Int} {base : Nat} (h : IsH w0 W e rv st rest lg) (hR : Kd.R (Kd.int .u8) 5 W base (fun k => some k ≠ rv.ownBlock) v xs) (hg : W.grownBy W1 v.ownBlock) : IsH w0 W1 e rv st rest lg := by
  refine ⟨h.ge, h.len, (hg.block e (blk_lt h.blk) fun he => ?_).trans h.blk, q_move h.row fun k hk => hg.block k (q_lt h.row k hk) fun he => hR.1 k he.symm hk.symm⟩
  obtain ⟨c', hc'⟩ := own_typed (Kd.own_of_R hR) e he.symm
  rw [h.blk] at hc'; injection hc' with hc'; injection hc' with _ hc'; exact absurd hc' (by decide)
theorem q_fresh {w0 W : World} {e : Nat} {rv : Value} {st rest : List Int} {lg : Int} (h : IsH w0 W e rv st rest lg) : ∀ k, W.heap.size ≤ k → some k ≠ rv.ownBlock := fun k hk he => by
  have := q_lt h.row k he.symm
  omega
theorem one_own (W : World) (base : Nat) (hb : base ≤ W.heap.size) (x : Int) (ok : Nat → Prop) (hok : ok W.heap.size) : Kd.R (Kd.int .u8) 5 (W.alloc (.cells #[.int .u8 x] 5)) base ok (.slice (some ⟨W.heap.size, 0, none⟩) 1 1) [x] :=
  Kd.R_of_own ⟨rfl, .inr ⟨W.heap.size, 1, #[.int .u8 x], rfl, hb, heap_alloc_new W _, Nat.le_refl _, by decide, rfl, rfl⟩⟩ fun k hk => by
    have : W.heap.size = k := by simpa [Value.ownBlock] using hk
    rw [← this]; exact hok
theorem strOfNums_size' (xs : List Int) : (strOfNums xs).size = xs.length := by simp [strOfNums, ByteArray.size]
theorem bytesOf_strOfNums (xs : List Int) (h : ∀ x ∈ xs, 0 ≤ x ∧ x < 256) : bytesOf (strOfNums xs) = xs := by
  unfold strOfNums bytesOf
  simp only [List.map_map]
  conv => rhs; rw [← List.map_id xs]
  refine List.map_congr_left fun x hx => ?_
  have := h x hx
  simp only [Function.comp_def, id]
  first | (simp [UInt8.toNat_ofNat]; omega) | (simp; omega)
theorem padS_byte (rl : Nat) (lg : Int) : ∀ x ∈ padS rl lg, 0 ≤ x ∧ x < 256 := fun x hx => by
  unfold padS at hx
  rcases List.mem_append.1 hx with h | h
  · rcases List.mem_cons.1 h with rfl | h
    · omega
    · have := List.eq_of_mem_replicate h
      omega
  · simp only [lenB, List.mem_cons, List.not_mem_nil, or_false] at h
    rcases h with rfl | rfl | rfl | rfl | rfl | rfl | rfl | rfl <;> omega
theorem outL_len (l : List Int) : (outL l).length = 4 * l.length := by
  induction l with
  | nil => rfl
  | cons x l ih => simp only [outL, List.length_append, ih, List.length_cons]; simp [wordB]; omega
theorem four_reads (W : World) (a b c d : Int) : Kd.C (Kd.int .u8) (W.alloc (.cells #[.int .u8 a, .int .u8 b, .int .u8 c, .int .u8 d] 5)) (some ⟨W.heap.size, 0, none⟩) 4 [a, b, c, d] := by
  refine Kd.C_of_reads (enc := Value.int .u8) (d := 0) (h1 := fun _ => rfl) ⟨rfl, by decide, fun _ => ⟨_, rfl, fun j hj => ?_⟩⟩
  rw [add_plain, blk_cell (heap_alloc_new W (.cells #[.int .u8 a, .int .u8 b, .int .u8 c, .int .u8 d] 5)) j]
  rcases j with _ | _ | _ | _ | j
  · rfl
  · rfl
  · rfl
  · rfl
  · omega
theorem info66 : (Tryd.prog.info? 66).map (fun i => (i.zero, i.size, i.bytes)) = some (some (.int .u32 0), 1, 4) := by kernel_rfl
theorem idx0 (y0 y1 y2 y3 y4 y5 y6 y7 : Int) (W : World) : (Instr.index 71 (.agg #[.int .u32 y0, .int .u32 y1, .int .u32 y2, .int .u32 y3, .int .u32 y4, .int .u32 y5, .int .u32 y6, .int .u32 y7]) (.int .i64 0)).run Tryd.prog W = .ok (.int .u32 y0) W := by
  obtain ⟨i0, hi, hzz⟩ := Option.map_eq_some_iff.1 info66
  simp only [Prod.mk.injEq] at hzz
  have hu := Tryd.underlying66
  simp [Instr.index, run_underlying Tryd.underlying71, sizeOf, typeInfo, hi, hzz.2.1, asIntOf, part, run_underlying hu, Result.andThen]
theorem idx1 (y0 y1 y2 y3 y4 y5 y6 y7 : Int) (W : World) : (Instr.index 71 (.agg #[.int .u32 y0, .int .u32 y1, .int .u32 y2, .int .u32 y3, .int .u32 y4, .int .u32 y5, .int .u32 y6, .int .u32 y7]) (.int .i64 1)).run Tryd.prog W = .ok (.int .u32 y1) W := by
  obtain ⟨i0, hi, hzz⟩ := Option.map_eq_some_iff.1 info66
  simp only [Prod.mk.injEq] at hzz
  have hu := Tryd.underlying66
  simp [Instr.index, run_underlying Tryd.underlying71, sizeOf, typeInfo, hi, hzz.2.1, asIntOf, part, run_underlying hu, Result.andThen]
theorem idx2 (y0 y1 y2 y3 y4 y5 y6 y7 : Int) (W : World) : (Instr.index 71 (.agg #[.int .u32 y0, .int .u32 y1, .int .u32 y2, .int .u32 y3, .int .u32 y4, .int .u32 y5, .int .u32 y6, .int .u32 y7]) (.int .i64 2)).run Tryd.prog W = .ok (.int .u32 y2) W := by
  obtain ⟨i0, hi, hzz⟩ := Option.map_eq_some_iff.1 info66
  simp only [Prod.mk.injEq] at hzz
  have hu := Tryd.underlying66
  simp [Instr.index, run_underlying Tryd.underlying71, sizeOf, typeInfo, hi, hzz.2.1, asIntOf, part, run_underlying hu, Result.andThen]
theorem idx3 (y0 y1 y2 y3 y4 y5 y6 y7 : Int) (W : World) : (Instr.index 71 (.agg #[.int .u32 y0, .int .u32 y1, .int .u32 y2, .int .u32 y3, .int .u32 y4, .int .u32 y5, .int .u32 y6, .int .u32 y7]) (.int .i64 3)).run Tryd.prog W = .ok (.int .u32 y3) W := by
  obtain ⟨i0, hi, hzz⟩ := Option.map_eq_some_iff.1 info66
  simp only [Prod.mk.injEq] at hzz
  have hu := Tryd.underlying66
  simp [Instr.index, run_underlying Tryd.underlying71, sizeOf, typeInfo, hi, hzz.2.1, asIntOf, part, run_underlying hu, Result.andThen]
theorem idx4 (y0 y1 y2 y3 y4 y5 y6 y7 : Int) (W : World) : (Instr.index 71 (.agg #[.int .u32 y0, .int .u32 y1, .int .u32 y2, .int .u32 y3, .int .u32 y4, .int .u32 y5, .int .u32 y6, .int .u32 y7]) (.int .i64 4)).run Tryd.prog W = .ok (.int .u32 y4) W := by
  obtain ⟨i0, hi, hzz⟩ := Option.map_eq_some_iff.1 info66
  simp only [Prod.mk.injEq] at hzz
  have hu := Tryd.underlying66
  simp [Instr.index, run_underlying Tryd.underlying71, sizeOf, typeInfo, hi, hzz.2.1, asIntOf, part, run_underlying hu, Result.andThen]
theorem idx5 (y0 y1 y2 y3 y4 y5 y6 y7 : Int) (W : World) : (Instr.index 71 (.agg #[.int .u32 y0, .int .u32 y1, .int .u32 y2, .int .u32 y3, .int .u32 y4, .int .u32 y5, .int .u32 y6, .int .u32 y7]) (.int .i64 5)).run Tryd.prog W = .ok (.int .u32 y5) W := by
  obtain ⟨i0, hi, hzz⟩ := Option.map_eq_some_iff.1 info66
  simp only [Prod.mk.injEq] at hzz
  have hu := Tryd.underlying66
  simp [Instr.index, run_underlying Tryd.underlying71, sizeOf, typeInfo, hi, hzz.2.1, asIntOf, part, run_underlying hu, Result.andThen]
theorem idx6 (y0 y1 y2 y3 y4 y5 y6 y7 : Int) (W : World) : (Instr.index 71 (.agg #[.int .u32 y0, .int .u32 y1, .int .u32 y2, .int .u32 y3, .int .u32 y4, .int .u32 y5, .int .u32 y6, .int .u32 y7]) (.int .i64 6)).run Tryd.prog W = .ok (.int .u32 y6) W := by
  obtain ⟨i0, hi, hzz⟩ := Option.map_eq_some_iff.1 info66
  simp only [Prod.mk.injEq] at hzz
  have hu := Tryd.underlying66
  simp [Instr.index, run_underlying Tryd.underlying71, sizeOf, typeInfo, hi, hzz.2.1, asIntOf, part, run_underlying hu, Result.andThen]
theorem idx7 (y0 y1 y2 y3 y4 y5 y6 y7 : Int) (W : World) : (Instr.index 71 (.agg #[.int .u32 y0, .int .u32 y1, .int .u32 y2, .int .u32 y3, .int .u32 y4, .int .u32 y5, .int .u32 y6, .int .u32 y7]) (.int .i64 7)).run Tryd.prog W = .ok (.int .u32 y7) W := by
  obtain ⟨i0, hi, hzz⟩ := Option.map_eq_some_iff.1 info66
  simp only [Prod.mk.injEq] at hzz
  have hu := Tryd.underlying66
  simp [Instr.index, run_underlying Tryd.underlying71, sizeOf, typeInfo, hi, hzz.2.1, asIntOf, part, run_underlying hu, Result.andThen]
attribute [local go_sem] idx0 idx1 idx2 idx3 idx4 idx5 idx6 idx7
theorem snoc_rep (j : Nat) : (128 :: List.replicate j (0 : Int)) ++ [0] = 128 :: List.replicate (j + 1) 0 := by
  rw [List.cons_append, List.replicate_succ']
theorem own_q {W : World} {base : Nat} {v : Value} {xs : List Int} {ok : Nat → Prop} (h : Kd.R (Kd.int .u8) 5 W base ok v xs) : QRow W base 5 1 v xs.length (nums .u8 xs) := by
  have := q_of_own (Kd.own_of_R h)
  simpa [nums, encs] using this
theorem first_a {w9 w1 : World} {A1 : Option Addr} {c1 : Nat} {rest : List Int} (s0 s1 s2 s3 s4 s5 s6 s7 : Int) (hb1 : Below w9.heap.size w9 w1) (hr1 : Kd.R (Kd.int .u8) 5 w1 w9.heap.size (fun _ => True) (.slice A1 rest.length c1) rest) :
    IsH w9 (w1.alloc (.cells #[.int .u32 s0, .int .u32 s1, .int .u32 s2, .int .u32 s3, .int .u32 s4, .int .u32 s5, .int .u32 s6, .int .u32 s7, .slice A1 rest.length c1, .int .u64 0] 73)) w1.heap.size (.slice A1 rest.length c1) [s0, s1, s2, s3, s4, s5, s6, s7] rest 0 ∧ Below w9.heap.size w9 (w1.alloc (.cells #[.int .u32 s0, .int .u32 s1, .int .u32 s2, .int .u32 s3, .int .u32 s4, .int .u32 s5, .int .u32 s6, .int .u32 s7, .slice A1 rest.length c1, .int .u64 0] 73)) :=
  ⟨⟨hb1.size, rfl, heap_alloc_new w1 _, own_q (Kd.R_alloc hr1 _)⟩, below_alloc hb1 _⟩
theorem first_b {w9 w1 : World} {A1 : Option Addr} {c1 e : Nat} {rest : List Int} (s0 s1 s2 s3 s4 s5 s6 s7 : Int) (hb1 : Below w9.heap.size w9 w1) (he : w1.heap[e]? = some (.cells #[.int .u32 0, .int .u32 0, .int .u32 0, .int .u32 0, .int .u32 0, .int .u32 0, .int .u32 0, .int .u32 0, .slice none 0 0, .int .u64 0] 73 (0, 0))) (hge : w9.heap.size ≤ e) (hr1 : Kd.R (Kd.int .u8) 5 w1 w9.heap.size (fun _ => True) (.slice A1 rest.length c1) rest) :
    IsH w9 ((((((((((w1.setCell ⟨e, 0, none⟩ (.int .u32 s0)).setCell ⟨e, 1, none⟩ (.int .u32 s1)).setCell ⟨e, 2, none⟩ (.int .u32 s2)).setCell ⟨e, 3, none⟩ (.int .u32 s3)).setCell ⟨e, 4, none⟩ (.int .u32 s4)).setCell ⟨e, 5, none⟩ (.int .u32 s5)).setCell ⟨e, 6, none⟩ (.int .u32 s6)).setCell ⟨e, 7, none⟩ (.int .u32 s7)).setCell ⟨e, 8, none⟩ (.slice A1 rest.length c1)).setCell ⟨e, 9, none⟩ (.int .u64 0)) e (.slice A1 rest.length c1) [s0, s1, s2, s3, s4, s5, s6, s7] rest 0 ∧ Below w9.heap.size w9 ((((((((((w1.setCell ⟨e, 0, none⟩ (.int .u32 s0)).setCell ⟨e, 1, none⟩ (.int .u32 s1)).setCell ⟨e, 2, none⟩ (.int .u32 s2)).setCell ⟨e, 3, none⟩ (.int .u32 s3)).setCell ⟨e, 4, none⟩ (.int .u32 s4)).setCell ⟨e, 5, none⟩ (.int .u32 s5)).setCell ⟨e, 6, none⟩ (.int .u32 s6)).setCell ⟨e, 7, none⟩ (.int .u32 s7)).setCell ⟨e, 8, none⟩ (.slice A1 rest.length c1)).setCell ⟨e, 9, none⟩ (.int .u64 0)) := by
  have hq := own_q hr1
  have hne : ∀ k, (Value.slice A1 rest.length c1).ownBlock = some k → k ≠ e := fun k hk h_ => by
    obtain ⟨_, c, hc⟩ := q_typed hq k hk
    rw [h_, he] at hc; injection hc with hc; injection hc with _ hc; exact absurd hc (by decide)
  refine ⟨⟨hge, rfl, ?_, ?_⟩, ?_⟩
  · have h1 : (w1.setCell ⟨e, 0, none⟩ (.int .u32 s0)).heap[e]? = some (.cells #[.int .u32 s0, .int .u32 0, .int .u32 0, .int .u32 0, .int .u32 0, .int .u32 0, .int .u32 0, .int .u32 0, .slice none 0 0, .int .u64 0] 73 (0, 0)) := blk_put he 0 _ rfl
    have h2 : ((w1.setCell ⟨e, 0, none⟩ (.int .u32 s0)).setCell ⟨e, 1, none⟩ (.int .u32 s1)).heap[e]? = some (.cells #[.int .u32 s0, .int .u32 s1, .int .u32 0, .int .u32 0, .int .u32 0, .int .u32 0, .int .u32 0, .int .u32 0, .slice none 0 0, .int .u64 0] 73 (0, 0)) := blk_put h1 1 _ rfl
    have h3 : (((w1.setCell ⟨e, 0, none⟩ (.int .u32 s0)).setCell ⟨e, 1, none⟩ (.int .u32 s1)).setCell ⟨e, 2, none⟩ (.int .u32 s2)).heap[e]? = some (.cells #[.int .u32 s0, .int .u32 s1, .int .u32 s2, .int .u32 0, .int .u32 0, .int .u32 0, .int .u32 0, .int .u32 0, .slice none 0 0, .int .u64 0] 73 (0, 0)) := blk_put h2 2 _ rfl
    have h4 : ((((w1.setCell ⟨e, 0, none⟩ (.int .u32 s0)).setCell ⟨e, 1, none⟩ (.int .u32 s1)).setCell ⟨e, 2, none⟩ (.int .u32 s2)).setCell ⟨e, 3, none⟩ (.int .u32 s3)).heap[e]? = some (.cells #[.int .u32 s0, .int .u32 s1, .int .u32 s2, .int .u32 s3, .int .u32 0, .int .u32 0, .int .u32 0, .int .u32 0, .slice none 0 0, .int .u64 0] 73 (0, 0)) := blk_put h3 3 _ rfl
    have h5 : (((((w1.setCell ⟨e, 0, none⟩ (.int .u32 s0)).setCell ⟨e, 1, none⟩ (.int .u32 s1)).setCell ⟨e, 2, none⟩ (.int .u32 s2)).setCell ⟨e, 3, none⟩ (.int .u32 s3)).setCell ⟨e, 4, none⟩ (.int .u32 s4)).heap[e]? = some (.cells #[.int .u32 s0, .int .u32 s1, .int .u32 s2, .int .u32 s3, .int .u32 s4, .int .u32 0, .int .u32 0, .int .u32 0, .slice none 0 0, .int .u64 0] 73 (0, 0)) := blk_put h4 4 _ rfl
    have h6 : ((((((w1.setCell ⟨e, 0, none⟩ (.int .u32 s0)).setCell ⟨e, 1, none⟩ (.int .u32 s1)).setCell ⟨e, 2, none⟩ (.int .u32 s2)).setCell ⟨e, 3, none⟩ (.int .u32 s3)).setCell ⟨e, 4, none⟩ (.int .u32 s4)).setCell ⟨e, 5, none⟩ (.int .u32 s5)).heap[e]? = some (.cells #[.int .u32 s0, .int .u32 s1, .int .u32 s2, .int .u32 s3, .int .u32 s4, .int .u32 s5, .int .u32 0, .int .u32 0, .slice none 0 0, .int .u64 0] 73 (0, 0)) := blk_put h5 5 _ rfl
    have h7 : (((((((w1.setCell ⟨e, 0, none⟩ (.int .u32 s0)).setCell ⟨e, 1, none⟩ (.int .u32 s1)).setCell ⟨e, 2, none⟩ (.int .u32 s2)).setCell ⟨e, 3, none⟩ (.int .u32 s3)).setCell ⟨e, 4, none⟩ (.int .u32 s4)).setCell ⟨e, 5, none⟩ (.int .u32 s5)).setCell ⟨e, 6, none⟩ (.int .u32 s6)).heap[e]? = some (.cells #[.int .u32 s0, .int .u32 s1, .int .u32 s2, .int .u32 s3, .int .u32 s4, .int .u32 s5, .int .u32 s6, .int .u32 0, .slice none 0 0, .int .u64 0] 73 (0, 0)) := blk_put h6 6 _ rfl
    have h8 : ((((((((w1.setCell ⟨e, 0, none⟩ (.int .u32 s0)).setCell ⟨e, 1, none⟩ (.int .u32 s1)).setCell ⟨e, 2, none⟩ (.int .u32 s2)).setCell ⟨e, 3, none⟩ (.int .u32 s3)).setCell ⟨e, 4, none⟩ (.int .u32 s4)).setCell ⟨e, 5, none⟩ (.int .u32 s5)).setCell ⟨e, 6, none⟩ (.int .u32 s6)).setCell ⟨e, 7, none⟩ (.int .u32 s7)).heap[e]? = some (.cells #[.int .u32 s0, .int .u32 s1, .int .u32 s2, .int .u32 s3, .int .u32 s4, .int .u32 s5, .int .u32 s6, .int .u32 s7, .slice none 0 0, .int .u64 0] 73 (0, 0)) := blk_put h7 7 _ rfl
    have h9 : (((((((((w1.setCell ⟨e, 0, none⟩ (.int .u32 s0)).setCell ⟨e, 1, none⟩ (.int .u32 s1)).setCell ⟨e, 2, none⟩ (.int .u32 s2)).setCell ⟨e, 3, none⟩ (.int .u32 s3)).setCell ⟨e, 4, none⟩ (.int .u32 s4)).setCell ⟨e, 5, none⟩ (.int .u32 s5)).setCell ⟨e, 6, none⟩ (.int .u32 s6)).setCell ⟨e, 7, none⟩ (.int .u32 s7)).setCell ⟨e, 8, none⟩ (.slice A1 rest.length c1)).heap[e]? = some (.cells #[.int .u32 s0, .int .u32 s1, .int .u32 s2, .int .u32 s3, .int .u32 s4, .int .u32 s5, .int .u32 s6, .int .u32 s7, .slice A1 rest.length c1, .int .u64 0] 73 (0, 0)) := blk_put h8 8 _ rfl
    have h10 : ((((((((((w1.setCell ⟨e, 0, none⟩ (.int .u32 s0)).setCell ⟨e, 1, none⟩ (.int .u32 s1)).setCell ⟨e, 2, none⟩ (.int .u32 s2)).setCell ⟨e, 3, none⟩ (.int .u32 s3)).setCell ⟨e, 4, none⟩ (.int .u32 s4)).setCell ⟨e, 5, none⟩ (.int .u32 s5)).setCell ⟨e, 6, none⟩ (.int .u32 s6)).setCell ⟨e, 7, none⟩ (.int .u32 s7)).setCell ⟨e, 8, none⟩ (.slice A1 rest.length c1)).setCell ⟨e, 9, none⟩ (.int .u64 0)).heap[e]? = some (.cells #[.int .u32 s0, .int .u32 s1, .int .u32 s2, .int .u32 s3, .int .u32 s4, .int .u32 s5, .int .u32 s6, .int .u32 s7, .slice A1 rest.length c1, .int .u64 0] 73 (0, 0)) := blk_put h9 9 _ rfl
    exact h10
  · replace hq := q_move hq fun k hk => Below.heap_setCell w1 ⟨e, 0, none⟩ (.int .u32 s0) k (hne k hk)
    replace hq := q_move hq fun k hk => Below.heap_setCell (w1.setCell ⟨e, 0, none⟩ (.int .u32 s0)) ⟨e, 1, none⟩ (.int .u32 s1) k (hne k hk)
    replace hq := q_move hq fun k hk => Below.heap_setCell ((w1.setCell ⟨e, 0, none⟩ (.int .u32 s0)).setCell ⟨e, 1, none⟩ (.int .u32 s1)) ⟨e, 2, none⟩ (.int .u32 s2) k (hne k hk)
    replace hq := q_move hq fun k hk => Below.heap_setCell (((w1.setCell ⟨e, 0, none⟩ (.int .u32 s0)).setCell ⟨e, 1, none⟩ (.int .u32 s1)).setCell ⟨e, 2, none⟩ (.int .u32 s2)) ⟨e, 3, none⟩ (.int .u32 s3) k (hne k hk)
    replace hq := q_move hq fun k hk => Below.heap_setCell ((((w1.setCell ⟨e, 0, none⟩ (.int .u32 s0)).setCell ⟨e, 1, none⟩ (.int .u32 s1)).setCell ⟨e, 2, none⟩ (.int .u32 s2)).setCell ⟨e, 3, none⟩ (.int .u32 s3)) ⟨e, 4, none⟩ (.int .u32 s4) k (hne k hk)
    replace hq := q_move hq fun k hk => Below.heap_setCell (((((w1.setCell ⟨e, 0, none⟩ (.int .u32 s0)).setCell ⟨e, 1, none⟩ (.int .u32 s1)).setCell ⟨e, 2, none⟩ (.int .u32 s2)).setCell ⟨e, 3, none⟩ (.int .u32 s3)).setCell ⟨e, 4, none⟩ (.int .u32 s4)) ⟨e, 5, none⟩ (.int .u32 s5) k (hne k hk)
    replace hq := q_move hq fun k hk => Below.heap_setCell ((((((w1.setCell ⟨e, 0, none⟩ (.int .u32 s0)).setCell ⟨e, 1, none⟩ (.int .u32 s1)).setCell ⟨e, 2, none⟩ (.int .u32 s2)).setCell ⟨e, 3, none⟩ (.int .u32 s3)).setCell ⟨e, 4, none⟩ (.int .u32 s4)).setCell ⟨e, 5, none⟩ (.int .u32 s5)) ⟨e, 6, none⟩ (.int .u32 s6) k (hne k hk)
    replace hq := q_move hq fun k hk => Below.heap_setCell (((((((w1.setCell ⟨e, 0, none⟩ (.int .u32 s0)).setCell ⟨e, 1, none⟩ (.int .u32 s1)).setCell ⟨e, 2, none⟩ (.int .u32 s2)).setCell ⟨e, 3, none⟩ (.int .u32 s3)).setCell ⟨e, 4, none⟩ (.int .u32 s4)).setCell ⟨e, 5, none⟩ (.int .u32 s5)).setCell ⟨e, 6, none⟩ (.int .u32 s6)) ⟨e, 7, none⟩ (.int .u32 s7) k (hne k hk)
    replace hq := q_move hq fun k hk => Below.heap_setCell ((((((((w1.setCell ⟨e, 0, none⟩ (.int .u32 s0)).setCell ⟨e, 1, none⟩ (.int .u32 s1)).setCell ⟨e, 2, none⟩ (.int .u32 s2)).setCell ⟨e, 3, none⟩ (.int .u32 s3)).setCell ⟨e, 4, none⟩ (.int .u32 s4)).setCell ⟨e, 5, none⟩ (.int .u32 s5)).setCell ⟨e, 6, none⟩ (.int .u32 s6)).setCell ⟨e, 7, none⟩ (.int .u32 s7)) ⟨e, 8, none⟩ (.slice A1 rest.length c1) k (hne k hk)
    replace hq := q_move hq fun k hk => Below.heap_setCell (((((((((w1.setCell ⟨e, 0, none⟩ (.int .u32 s0)).setCell ⟨e, 1, none⟩ (.int .u32 s1)).setCell ⟨e, 2, none⟩ (.int .u32 s2)).setCell ⟨e, 3, none⟩ (.int .u32 s3)).setCell ⟨e, 4, none⟩ (.int .u32 s4)).setCell ⟨e, 5, none⟩ (.int .u32 s5)).setCell ⟨e, 6, none⟩ (.int .u32 s6)).setCell ⟨e, 7, none⟩ (.int .u32 s7)).setCell ⟨e, 8, none⟩ (.slice A1 rest.length c1)) ⟨e, 9, none⟩ (.int .u64 0) k (hne k hk)
    exact hq
  · exact below_set (below_set (below_set (below_set (below_set (below_set (below_set (below_set (below_set (below_set hb1 hge) hge) hge) hge) hge) hge) hge) hge) hge) hge
set_option maxRecDepth 100000 in
set_option maxHeartbeats 8000000 in
theorem sum_walk (g : Nat) (rv : Value) (st rest : List Int) (lg : Int) (w0 w : World) (hI : IsH w0 w g rv st rest lg) (hL : Laid w) (h2 : 2 ≤ w.heap.size) (hr : rest.length < 64) :
    Calls Tryd.prog 19 #[.pointer (some ⟨g, 0, none⟩)] w fun e w' => e = .returned (.string (strOfNums (sumL st rest lg))) ∧ Below w.heap.size w w' := by
  obtain ⟨A0, k0, rfl, hk0⟩ := q_slice hI.row
  obtain ⟨s0, s1, s2, s3, s4, s5, s6, s7, rfl⟩ := eight st hI.len
  have c8 := (blk_cell hI.blk 8).trans (hc8 _ _ _ hI.len)
  have c9 := (blk_cell hI.blk 9).trans (hc9 _ _ _ hI.len)
  have g0 := blk_cell hI.blk 0
  have g1 := blk_cell hI.blk 1
  have g2 := blk_cell hI.blk 2
  have g3 := blk_cell hI.blk 3
  have g4 := blk_cell hI.blk 4
  have g5 := blk_cell hI.blk 5
  have g6 := blk_cell hI.blk 6
  have g7 := blk_cell hI.blk 7
  simp [HCells, nums] at g0 g1 g2 g3 g4 g5 g6 g7
  have hlt := blk_lt hI.blk
  have HR := Aside0.mk (reads_all hI.row)
  have HI := Aside0.mk hI
  have HL := Aside0.mk hL
  clear hI hL
  go_enter Tryd.func19, Tryd.ntmps19
  go_upto_region 1 with fail
  go_cut [3] (fun x3 wx => ∃ (e : Nat) (rv2 : Value), x3 = .pointer (some ⟨e, 0, none⟩) ∧ Aside0 (IsH w wx e rv2 [s0, s1, s2, s3, s4, s5, s6, s7] rest 0 ∧ Below w.heap.size w wx))
  case first =>
    generalize hw9 : w = w9 at *
    have HBl := Below.refl w9.heap.size w9
    have n1 : g ≠ w9.heap.size := by omega
    have n2 : g ≠ w9.heap.size + 1 := by omega
    go_region_held3 (fun w' => w'.cell? ⟨g, 0, none⟩ = some (.int .u32 s0) ∧ w'.cell? ⟨g, 1, none⟩ = some (.int .u32 s1) ∧ w'.cell? ⟨g, 2, none⟩ = some (.int .u32 s2) ∧ w'.cell? ⟨g, 3, none⟩ = some (.int .u32 s3) ∧ w'.cell? ⟨g, 4, none⟩ = some (.int .u32 s4) ∧ w'.cell? ⟨g, 5, none⟩ = some (.int .u32 s5) ∧ w'.cell? ⟨g, 6, none⟩ = some (.int .u32 s6) ∧ w'.cell? ⟨g, 7, none⟩ = some (.int .u32 s7) ∧ w'.cell? ⟨g, 8, none⟩ = some (.slice A0 rest.length k0))
      (first | (go_split_ands; refine ⟨?_, ?_, ?_, ?_, ?_, ?_, ?_, ?_, ?_⟩ <;> first | ((repeat (with_reducible first | assumption | refine cell_keep_far (by with_reducible assumption) ?_ | refine cell_keep_alloc ?_ | refine cell_keep_drew ?_)); done) | (simp [*, World.cell?_alloc_some, World.cell?_setCell_far]; done)))
      (first | (refine Kd.R_append_rows_step (Kd.int .u8) (w0 := w9) w9.heap.size (by rfl) (.tmp 13) (.tmp 17) 32 5 (.int .u8 0) 1 rfl Tryd.underlying32 info5 rfl (by decide) (by decide) _ [] rest A0 _ k0 (fun _ => True) (fun _ => False) rfl rfl ?aO (Kd.C_below HR.out ?aR) (fun _ _ h => h) (fun _ h => h.elim) (fun _ _ => trivial) ?aB ?aS (by simp only [List.length_nil]; omega) ?_; (case aO => first | exact Kd.R_drew (empty_own w9 _ (Nat.le_refl _)) | exact Kd.R_drew (Kd.R_alloc (empty_own w9 _ (Nat.le_refl _)) _) | (have h_ := Kd.R_drew (empty_own (w9.alloc (.cells #[.int .u32 0, .int .u32 0, .int .u32 0, .int .u32 0, .int .u32 0, .int .u32 0, .int .u32 0, .int .u32 0, .slice none 0 0, .int .u64 0] 73)) w9.heap.size (by simp)); simp at h_; exact h_)); (case aR => repeat (first | assumption | (with_reducible first | exact Below.refl _ _ | apply below_drew1 | apply pw_below_drewN | apply below_alloc) | (with_reducible refine below_set ?_ (by first | exact Nat.le_refl _ | (simp; done) | omega | (simp; omega))))); (case aB => repeat (first | assumption | (with_reducible first | exact Below.refl _ _ | apply below_drew1 | apply pw_below_drewN | apply below_alloc) | (with_reducible refine below_set ?_ (by first | exact Nat.le_refl _ | (simp; done) | omega | (simp; omega))))); (case aS => first | exact Nat.le_refl _ | (simp; done) | (simp; omega)); intro v1 w1 hr1 hb1 hg1 hat1; simp only [List.nil_append] at hr1; obtain ⟨A1, c1, rfl⟩ := Kd.R_slice hr1; have q0 := (hb1.cell (p := ⟨g, 0, none⟩) hlt).trans g0; have q1 := (hb1.cell (p := ⟨g, 1, none⟩) hlt).trans g1; have q2 := (hb1.cell (p := ⟨g, 2, none⟩) hlt).trans g2; have q3 := (hb1.cell (p := ⟨g, 3, none⟩) hlt).trans g3; have q4 := (hb1.cell (p := ⟨g, 4, none⟩) hlt).trans g4; have q5 := (hb1.cell (p := ⟨g, 5, none⟩) hlt).trans g5; have q6 := (hb1.cell (p := ⟨g, 6, none⟩) hlt).trans g6; have q7 := (hb1.cell (p := ⟨g, 7, none⟩) hlt).trans g7; have q8 := (hb1.cell (p := ⟨g, 8, none⟩) hlt).trans c8; have q9 : g ≠ w1.heap.size := (by have := hb1.size; omega); (first | (have hg2 : World.grownBy ((w9.alloc (.cells #[] 5)).alloc (.cells #[.int .u32 0, .int .u32 0, .int .u32 0, .int .u32 0, .int .u32 0, .int .u32 0, .int .u32 0, .int .u32 0, .slice none 0 0, .int .u64 0] 73)).drew w1 (some w9.heap.size) := hg1; obtain ⟨hE, ec0, ef0, ec1, ef1, ec2, ef2, ec3, ef3, ec4, ef4, ec5, ef5, ec6, ef6, ec7, ef7, ec8, ef8, ec9, ef9⟩ := end_facts (e := w9.heap.size + 1) hg2 (heap_two w9 _ _) (by simp)) | (have hg2 : World.grownBy ((w9.alloc (.cells #[.int .u32 0, .int .u32 0, .int .u32 0, .int .u32 0, .int .u32 0, .int .u32 0, .int .u32 0, .int .u32 0, .slice none 0 0, .int .u64 0] 73)).alloc (.cells #[] 5)).drew w1 (some (w9.heap.size + 1)) := hg1; obtain ⟨hE, ec0, ef0, ec1, ef1, ec2, ef2, ec3, ef3, ec4, ef4, ec5, ef5, ec6, ef6, ec7, ef7, ec8, ef8, ec9, ef9⟩ := end_facts (e := w9.heap.size) hg2 (heap_alloc_old_ w9 _ _) (by simp)) | skip)))
    · go_wp2_with fail
      go_meet
      exact ⟨w1.heap.size, _, rfl, ⟨first_a _ _ _ _ _ _ _ _ hb1 hr1⟩⟩
    · go_wp2_with fail
      go_meet
      exact ⟨w9.heap.size + 1, _, rfl, ⟨first_b _ _ _ _ _ _ _ _ hb1 hE (Nat.le_succ _) hr1⟩⟩
    · go_wp2_with fail
      go_meet
      exact ⟨w9.heap.size, _, rfl, ⟨first_b _ _ _ _ _ _ _ _ hb1 hE (Nat.le_refl _) hr1⟩⟩
  case rest =>
    obtain ⟨e, rv2, rfl, HE⟩ := hcut
    clear c8 g0 g1 g2 g3 g4 g5 g6 g7 HR
    obtain ⟨A2, k2, rfl, hk2⟩ := q_slice HE.out.1.row
    go_wp2_with fail
    go_loopg [4] 130 (fun kq v4 w' => ∃ j : Nat, Aside0 (j + kq = 130 ∧ j ≤ zs rest.length) ∧ Aside0 (Kd.R (Kd.int .u8) 5 w' w.heap.size (fun k => some k ≠ (Value.slice A2 rest.length k2).ownBlock) v4 (128 :: List.replicate j 0)) ∧ Aside0 (IsH w w' e (.slice A2 rest.length k2) [s0, s1, s2, s3, s4, s5, s6, s7] rest 0 ∧ Below w.heap.size w w'))
    case atStart => exact ⟨0, ⟨rfl, Nat.zero_le _⟩, ⟨one_own wc _ HE.out.2.size 128 _ (q_fresh HE.out.1 _ (Nat.le_refl _))⟩, ⟨HE.out.1.below (below_alloc (Below.refl _ _) _), below_alloc HE.out.2 _⟩⟩
    case round =>
      obtain ⟨j, HJ, HP, HH⟩ := hrel
      clear HE
      obtain ⟨A4, c4, rfl⟩ := Kd.R_slice HP.out
      have hlen : (128 :: List.replicate j (0 : Int)).length = j + 1 := by simp
      rw [hlen] at HP ⊢
      have d8 := (blk_cell HH.out.1.blk 8).trans (hc8 _ _ _ HH.out.1.len)
      clear hlen
      by_cases q1 : j < zs rest.length
      · obtain ⟨kq1, rfl⟩ : ∃ kq1, gk = kq1 + 1 := ⟨gk - 1, by have := HJ.out; unfold zs at this; omega⟩
        have t1 : (((rest.length : Int) + ((j : Int) + 1)) % 64 == 56) = false := by unfold zs at q1; simp; omega
        have t2 : (((rest.length : Int) + ((j : Int) + 1)) % 64 != 56) = true := by unfold zs at q1; simp; omega
        have hjb : j ≤ 130 := by have := HJ.out; omega
        have HQ := Aside0.mk q1
        clear q1
        go_wp2_with (first | ((with_reducible refine gate_builtin (b := .append) (xs := #[.tmp 29, .tmp 30]) rfl ?_); at_builtin; refine Kd.R_append (Kd.int .u8) (w0 := w) w.heap.size rfl (.tmp 29) (.tmp 30) 32 5 (.int .u8 0) 1 rfl Tryd.underlying32 info5 rfl (by decide) (by decide) _ (128 :: List.replicate j 0) 0 [.int .u8 0] (fun k => some k ≠ (Value.slice A2 rest.length k2).ownBlock) (fun _ => False) rfl rfl rfl (fun _ h => h.elim) (q_fresh HH.out.1) HP.out HH.out.2 HH.out.2.size (by simp; omega) ?_; intro v1 w5 hr5 hb5 hg5 _; rw [snoc_rep] at hr5; have HP5 := Aside0.mk hr5; have HH5 := Aside0.mk (And.intro (pad_kept HH.out.1 HP.out hg5) hb5); clear hr5 hb5 hg5 d8))
        go_roundg kq1
        case measure => omega
        case rel => exact ⟨j + 1, ⟨by have := HJ.out; omega, HQ.out⟩, HP5, HH5⟩
      · have hz : j = zs rest.length := by have := HJ.out; omega
        have t1 : (((rest.length : Int) + ((j : Int) + 1)) % 64 == 56) = true := by rw [hz]; unfold zs; simp; omega
        have t2 : (((rest.length : Int) + ((j : Int) + 1)) % 64 != 56) = false := by rw [hz]; unfold zs; simp; omega
        have hjb : j ≤ 130 := by have := HJ.out; unfold zs at this; omega
        have HZ := Aside0.mk hz
        clear q1 hz
        obtain ⟨L, hL⟩ : ∃ L, IntKind.u64.wrap (8 * lg) = L := ⟨_, rfl⟩
        generalize hPd : (128 :: List.replicate j (0 : Int)) = Pd at *
        have HPd := Aside0.mk hPd
        have hPl : Pd.length = j + 1 := by rw [← hPd]; simp
        have HPl := Aside0.mk hPl
        clear hPd hPl
        go_wp2_with fail
        go_loopg [4, 5] 9 (fun kq v4 v5 w' => ∃ q : Nat, v5 = .int .i64 (56 - 8 * (q : Int)) ∧ Aside0 (q + kq = 9 ∧ q ≤ 8) ∧ Aside0 (Kd.R (Kd.int .u8) 5 w' w.heap.size (fun k => some k ≠ (Value.slice A2 rest.length k2).ownBlock) v4 (Pd ++ (lenB L).take q)) ∧ Aside0 (IsH w w' e (.slice A2 rest.length k2) [s0, s1, s2, s3, s4, s5, s6, s7] rest 0 ∧ Below w.heap.size w w'))
        case atStart => exact ⟨0, rfl, ⟨rfl, Nat.zero_le _⟩, ⟨by rw [List.take_zero, List.append_nil]; exact HP.out⟩, HH⟩
        case round =>
          obtain ⟨q, rfl, HJ2, HP2, HH2⟩ := hrel
          clear HP HH d8 t1 t2
          obtain ⟨A5, c5, rfl⟩ := Kd.R_slice HP2.out
          have hl5 : (Pd ++ (lenB L).take q).length = j + 1 + q := by rw [List.length_append, List.length_take, HPl.out, show (lenB L).length = 8 from rfl, Nat.min_eq_left HJ2.out.2]
          rw [hl5] at HP2 ⊢
          have d9 := (HH2.out.2.cell (p := ⟨g, 9, none⟩) hlt).trans c9
          clear hl5
          by_cases q1 : q < 8
          · obtain ⟨kq1, rfl⟩ : ∃ kq1, gk = kq1 + 1 := ⟨gk - 1, by have := HJ2.out; omega⟩
            have HQ := Aside0.mk q1
            have hq : q = 0 ∨ q = 1 ∨ q = 2 ∨ q = 3 ∨ q = 4 ∨ q = 5 ∨ q = 6 ∨ q = 7 := by omega
            clear q1
            rcases hq with rfl | rfl | rfl | rfl | rfl | rfl | rfl | rfl
            · go_wp2_with (first | ((with_reducible refine gate_builtin (b := .append) (xs := #[.tmp 36, .tmp 45]) rfl ?_); at_builtin; refine Kd.R_append (Kd.int .u8) (w0 := w) w.heap.size rfl (.tmp 36) (.tmp 45) 32 5 (.int .u8 0) 1 rfl Tryd.underlying32 info5 rfl (by decide) (by decide) _ (Pd ++ (lenB L).take 0) (L / 72057594037927936 % 256) [.int .u8 (L / 72057594037927936 % 256)] (fun k => some k ≠ (Value.slice A2 rest.length k2).ownBlock) (fun _ => False) rfl rfl rfl (fun _ h => h.elim) (q_fresh HH2.out.1) HP2.out HH2.out.2 HH2.out.2.size (by rw [List.length_append, List.length_take, HPl.out]; omega) ?_; intro v1 w5 hr5 hb5 hg5 _; have HP5 := Aside0.mk hr5; have HH5 := Aside0.mk (And.intro (pad_kept HH2.out.1 HP2.out hg5) hb5); clear hr5 hb5 hg5 d9))
              go_roundg kq1
              case measure => omega
              case rel => exact ⟨1, by simp, ⟨by have := HJ2.out; omega, by decide⟩, ⟨by rw [List.append_assoc] at HP5; exact HP5.out⟩, HH5⟩
            · go_wp2_with (first | ((with_reducible refine gate_builtin (b := .append) (xs := #[.tmp 36, .tmp 45]) rfl ?_); at_builtin; refine Kd.R_append (Kd.int .u8) (w0 := w) w.heap.size rfl (.tmp 36) (.tmp 45) 32 5 (.int .u8 0) 1 rfl Tryd.underlying32 info5 rfl (by decide) (by decide) _ (Pd ++ (lenB L).take 1) (L / 281474976710656 % 256) [.int .u8 (L / 281474976710656 % 256)] (fun k => some k ≠ (Value.slice A2 rest.length k2).ownBlock) (fun _ => False) rfl rfl rfl (fun _ h => h.elim) (q_fresh HH2.out.1) HP2.out HH2.out.2 HH2.out.2.size (by rw [List.length_append, List.length_take, HPl.out]; omega) ?_; intro v1 w5 hr5 hb5 hg5 _; have HP5 := Aside0.mk hr5; have HH5 := Aside0.mk (And.intro (pad_kept HH2.out.1 HP2.out hg5) hb5); clear hr5 hb5 hg5 d9))
              go_roundg kq1
              case measure => omega
              case rel => exact ⟨2, by simp, ⟨by have := HJ2.out; omega, by decide⟩, ⟨by rw [List.append_assoc] at HP5; exact HP5.out⟩, HH5⟩
            · go_wp2_with (first | ((with_reducible refine gate_builtin (b := .append) (xs := #[.tmp 36, .tmp 45]) rfl ?_); at_builtin; refine Kd.R_append (Kd.int .u8) (w0 := w) w.heap.size rfl (.tmp 36) (.tmp 45) 32 5 (.int .u8 0) 1 rfl Tryd.underlying32 info5 rfl (by decide) (by decide) _ (Pd ++ (lenB L).take 2) (L / 1099511627776 % 256) [.int .u8 (L / 1099511627776 % 256)] (fun k => some k ≠ (Value.slice A2 rest.length k2).ownBlock) (fun _ => False) rfl rfl rfl (fun _ h => h.elim) (q_fresh HH2.out.1) HP2.out HH2.out.2 HH2.out.2.size (by rw [List.length_append, List.length_take, HPl.out]; omega) ?_; intro v1 w5 hr5 hb5 hg5 _; have HP5 := Aside0.mk hr5; have HH5 := Aside0.mk (And.intro (pad_kept HH2.out.1 HP2.out hg5) hb5); clear hr5 hb5 hg5 d9))
              go_roundg kq1
              case measure => omega
              case rel => exact ⟨3, by simp, ⟨by have := HJ2.out; omega, by decide⟩, ⟨by rw [List.append_assoc] at HP5; exact HP5.out⟩, HH5⟩
            · go_wp2_with (first | ((with_reducible refine gate_builtin (b := .append) (xs := #[.tmp 36, .tmp 45]) rfl ?_); at_builtin; refine Kd.R_append (Kd.int .u8) (w0 := w) w.heap.size rfl (.tmp 36) (.tmp 45) 32 5 (.int .u8 0) 1 rfl Tryd.underlying32 info5 rfl (by decide) (by decide) _ (Pd ++ (lenB L).take 3) (L / 4294967296 % 256) [.int .u8 (L / 4294967296 % 256)] (fun k => some k ≠ (Value.slice A2 rest.length k2).ownBlock) (fun _ => False) rfl rfl rfl (fun _ h => h.elim) (q_fresh HH2.out.1) HP2.out HH2.out.2 HH2.out.2.size (by rw [List.length_append, List.length_take, HPl.out]; omega) ?_; intro v1 w5 hr5 hb5 hg5 _; have HP5 := Aside0.mk hr5; have HH5 := Aside0.mk (And.intro (pad_kept HH2.out.1 HP2.out hg5) hb5); clear hr5 hb5 hg5 d9))
              go_roundg kq1
              case measure => omega
              case rel => exact ⟨4, by simp, ⟨by have := HJ2.out; omega, by decide⟩, ⟨by rw [List.append_assoc] at HP5; exact HP5.out⟩, HH5⟩
            · go_wp2_with (first | ((with_reducible refine gate_builtin (b := .append) (xs := #[.tmp 36, .tmp 45]) rfl ?_); at_builtin; refine Kd.R_append (Kd.int .u8) (w0 := w) w.heap.size rfl (.tmp 36) (.tmp 45) 32 5 (.int .u8 0) 1 rfl Tryd.underlying32 info5 rfl (by decide) (by decide) _ (Pd ++ (lenB L).take 4) (L / 16777216 % 256) [.int .u8 (L / 16777216 % 256)] (fun k => some k ≠ (Value.slice A2 rest.length k2).ownBlock) (fun _ => False) rfl rfl rfl (fun _ h => h.elim) (q_fresh HH2.out.1) HP2.out HH2.out.2 HH2.out.2.size (by rw [List.length_append, List.length_take, HPl.out]; omega) ?_; intro v1 w5 hr5 hb5 hg5 _; have HP5 := Aside0.mk hr5; have HH5 := Aside0.mk (And.intro (pad_kept HH2.out.1 HP2.out hg5) hb5); clear hr5 hb5 hg5 d9))
              go_roundg kq1
              case measure => omega
              case rel => exact ⟨5, by simp, ⟨by have := HJ2.out; omega, by decide⟩, ⟨by rw [List.append_assoc] at HP5; exact HP5.out⟩, HH5⟩
            · go_wp2_with (first | ((with_reducible refine gate_builtin (b := .append) (xs := #[.tmp 36, .tmp 45]) rfl ?_); at_builtin; refine Kd.R_append (Kd.int .u8) (w0 := w) w.heap.size rfl (.tmp 36) (.tmp 45) 32 5 (.int .u8 0) 1 rfl Tryd.underlying32 info5 rfl (by decide) (by decide) _ (Pd ++ (lenB L).take 5) (L / 65536 % 256) [.int .u8 (L / 65536 % 256)] (fun k => some k ≠ (Value.slice A2 rest.length k2).ownBlock) (fun _ => False) rfl rfl rfl (fun _ h => h.elim) (q_fresh HH2.out.1) HP2.out HH2.out.2 HH2.out.2.size (by rw [List.length_append, List.length_take, HPl.out]; omega) ?_; intro v1 w5 hr5 hb5 hg5 _; have HP5 := Aside0.mk hr5; have HH5 := Aside0.mk (And.intro (pad_kept HH2.out.1 HP2.out hg5) hb5); clear hr5 hb5 hg5 d9))
              go_roundg kq1
              case measure => omega
              case rel => exact ⟨6, by simp, ⟨by have := HJ2.out; omega, by decide⟩, ⟨by rw [List.append_assoc] at HP5; exact HP5.out⟩, HH5⟩
            · go_wp2_with (first | ((with_reducible refine gate_builtin (b := .append) (xs := #[.tmp 36, .tmp 45]) rfl ?_); at_builtin; refine Kd.R_append (Kd.int .u8) (w0 := w) w.heap.size rfl (.tmp 36) (.tmp 45) 32 5 (.int .u8 0) 1 rfl Tryd.underlying32 info5 rfl (by decide) (by decide) _ (Pd ++ (lenB L).take 6) (L / 256 % 256) [.int .u8 (L / 256 % 256)] (fun k => some k ≠ (Value.slice A2 rest.length k2).ownBlock) (fun _ => False) rfl rfl rfl (fun _ h => h.elim) (q_fresh HH2.out.1) HP2.out HH2.out.2 HH2.out.2.size (by rw [List.length_append, List.length_take, HPl.out]; omega) ?_; intro v1 w5 hr5 hb5 hg5 _; have HP5 := Aside0.mk hr5; have HH5 := Aside0.mk (And.intro (pad_kept HH2.out.1 HP2.out hg5) hb5); clear hr5 hb5 hg5 d9))
              go_roundg kq1
              case measure => omega
              case rel => exact ⟨7, by simp, ⟨by have := HJ2.out; omega, by decide⟩, ⟨by rw [List.append_assoc] at HP5; exact HP5.out⟩, HH5⟩
            · go_wp2_with (first | ((with_reducible refine gate_builtin (b := .append) (xs := #[.tmp 36, .tmp 45]) rfl ?_); at_builtin; refine Kd.R_append (Kd.int .u8) (w0 := w) w.heap.size rfl (.tmp 36) (.tmp 45) 32 5 (.int .u8 0) 1 rfl Tryd.underlying32 info5 rfl (by decide) (by decide) _ (Pd ++ (lenB L).take 7) (L % 256) [.int .u8 (L % 256)] (fun k => some k ≠ (Value.slice A2 rest.length k2).ownBlock) (fun _ => False) rfl rfl rfl (fun _ h => h.elim) (q_fresh HH2.out.1) HP2.out HH2.out.2 HH2.out.2.size (by rw [List.length_append, List.length_take, HPl.out]; omega) ?_; intro v1 w5 hr5 hb5 hg5 _; have HP5 := Aside0.mk hr5; have HH5 := Aside0.mk (And.intro (pad_kept HH2.out.1 HP2.out hg5) hb5); clear hr5 hb5 hg5 d9))
              go_roundg kq1
              case measure => omega
              case rel => exact ⟨8, by simp, ⟨by have := HJ2.out; omega, by decide⟩, ⟨by rw [List.append_assoc] at HP5; exact HP5.out⟩, HH5⟩
          · obtain rfl : q = 8 := by have := HJ2.out; omega
            have hpad : Pd ++ (lenB L).take 8 = padS rest.length lg := by rw [List.take_of_length_le (show (lenB L).length ≤ 8 from Nat.le_refl _)]; unfold padS; rw [← HPd.out, HZ.out, hL]
            rw [hpad] at HP2
            have hsz : (strOfNums (padS rest.length lg)).size ≤ 200 := by rw [strOfNums_size', ← hpad, List.length_append, HPl.out, List.length_take]; omega
            have hby : bytesOf (strOfNums (padS rest.length lg)) = padS rest.length lg := bytesOf_strOfNums _ (padS_byte _ _)
            have hcv := own_string (P := Tryd.prog) Tryd.underlying32 Tryd.underlying5 Tryd.underlying9 (Kd.own_of_R HP2.out)
            have HCV := Aside0.mk (And.intro hsz hby)
            obtain ⟨PS, hPS⟩ : ∃ PS, strOfNums (padS rest.length lg) = PS := ⟨_, rfl⟩
            rw [hPS] at hcv HCV
            clear hsz hby hpad q1 hPS d9
            go_wp2_with fail
            refine (write_walk e _ _ rest 0 PS w wr HH2.out.1 HL.out h2 HH2.out.2 (by omega) (by have := HCV.out; omega)).mono ?_
            rw [HCV.out.2]
            rintro en w6 ⟨rfl, rv6, hI6, _, hB6⟩
            generalize hab : absorb ((rest ++ padS rest.length lg).length + 1) [s0, s1, s2, s3, s4, s5, s6, s7] (rest ++ padS rest.length lg) = R6 at *
            have HAB := Aside0.mk hab
            clear hab hcv HH2 HP2
            obtain ⟨y0, y1, y2, y3, y4, y5, y6, y7, hy⟩ := eight R6.1 hI6.len
            rw [hy] at hI6
            have HY := Aside0.mk hy
            have HI6 := Aside0.mk (And.intro hI6 hB6)
            have m0 := blk_cell hI6.blk 0
            have m1 := blk_cell hI6.blk 1
            have m2 := blk_cell hI6.blk 2
            have m3 := blk_cell hI6.blk 3
            have m4 := blk_cell hI6.blk 4
            have m5 := blk_cell hI6.blk 5
            have m6 := blk_cell hI6.blk 6
            have m7 := blk_cell hI6.blk 7
            simp [HCells, nums] at m0 m1 m2 m3 m4 m5 m6 m7
            clear hI6 hB6 hy
            go_wp2_with fail
            go_loopg [6, 52] 9 (fun kq v6 v52 w' => ∃ t : Nat, v52 = .int .i64 (t : Int) ∧ Aside0 (t + kq = 9 ∧ t ≤ 8) ∧ Aside0 (Kd.R (Kd.int .u8) 5 w' w.heap.size (fun _ => True) v6 (outL ([y0, y1, y2, y3, y4, y5, y6, y7].take t))) ∧ Aside0 (Below w.heap.size w w'))
            case atStart => exact ⟨0, rfl, ⟨rfl, Nat.zero_le _⟩, ⟨Kd.R_nil _ _ _ _ _⟩, ⟨HI6.out.2⟩⟩
            case round =>
              obtain ⟨t, rfl, HT, HO, HB7⟩ := hrel
              clear HI6 m0 m1 m2 m3 m4 m5 m6 m7
              obtain ⟨A7, c7, rfl⟩ := Kd.R_slice HO.out
              have hlo : (outL ([y0, y1, y2, y3, y4, y5, y6, y7].take t)).length = 4 * t := by rw [outL_len, List.length_take]; have := HT.out.2; simp; omega
              rw [hlo] at HO ⊢
              clear hlo
              by_cases q1 : t < 8
              · obtain ⟨kq1, rfl⟩ : ∃ kq1, gk = kq1 + 1 := ⟨gk - 1, by have := HT.out; omega⟩
                have ht : t = 0 ∨ t = 1 ∨ t = 2 ∨ t = 3 ∨ t = 4 ∨ t = 5 ∨ t = 6 ∨ t = 7 := by omega
                clear q1
                rcases ht with rfl | rfl | rfl | rfl | rfl | rfl | rfl | rfl
                · go_wp2_with (first | ((with_reducible refine gate_builtin (b := .append) (xs := #[.tmp 55, .tmp 67]) rfl ?_); at_builtin; refine Kd.R_append_rows (Kd.int .u8) (w0 := w) w.heap.size rfl (.tmp 55) (.tmp 67) 32 5 (.int .u8 0) 1 rfl Tryd.underlying32 info5 rfl (by decide) (by decide) _ (outL ([y0, y1, y2, y3, y4, y5, y6, y7].take 0)) [y0 / 16777216 % 256, y0 / 65536 % 256, y0 / 256 % 256, y0 % 256] (some ⟨wr.heap.size, 0, none⟩) 4 4 (fun _ => True) (fun _ => False) rfl rfl (Kd.R_alloc HO.out _) (four_reads wr _ _ _ _) (fun _ _ h => h) (fun _ h => h.elim) (fun _ _ => trivial) (below_alloc HB7.out _) (below_alloc HB7.out _).size (by rw [outL_len, List.length_take]; simp) ?_; intro v1 w8 hr8 hb8 hg8 _; have HO8 := Aside0.mk hr8; have HB8 := Aside0.mk hb8; clear hr8 hb8 hg8))
                  go_roundg kq1
                  case measure => omega
                  case rel => exact ⟨1, by simp, ⟨by have := HT.out; omega, by decide⟩, ⟨HO8.out⟩, HB8⟩
                · go_wp2_with (first | ((with_reducible refine gate_builtin (b := .append) (xs := #[.tmp 55, .tmp 67]) rfl ?_); at_builtin; refine Kd.R_append_rows (Kd.int .u8) (w0 := w) w.heap.size rfl (.tmp 55) (.tmp 67) 32 5 (.int .u8 0) 1 rfl Tryd.underlying32 info5 rfl (by decide) (by decide) _ (outL ([y0, y1, y2, y3, y4, y5, y6, y7].take 1)) [y1 / 16777216 % 256, y1 / 65536 % 256, y1 / 256 % 256, y1 % 256] (some ⟨wr.heap.size, 0, none⟩) 4 4 (fun _ => True) (fun _ => False) rfl rfl (Kd.R_alloc HO.out _) (four_reads wr _ _ _ _) (fun _ _ h => h) (fun _ h => h.elim) (fun _ _ => trivial) (below_alloc HB7.out _) (below_alloc HB7.out _).size (by rw [outL_len, List.length_take]; simp) ?_; intro v1 w8 hr8 hb8 hg8 _; have HO8 := Aside0.mk hr8; have HB8 := Aside0.mk hb8; clear hr8 hb8 hg8))
                  go_roundg kq1
                  case measure => omega
                  case rel => exact ⟨2, by simp, ⟨by have := HT.out; omega, by decide⟩, ⟨HO8.out⟩, HB8⟩
                · go_wp2_with (first | ((with_reducible refine gate_builtin (b := .append) (xs := #[.tmp 55, .tmp 67]) rfl ?_); at_builtin; refine Kd.R_append_rows (Kd.int .u8) (w0 := w) w.heap.size rfl (.tmp 55) (.tmp 67) 32 5 (.int .u8 0) 1 rfl Tryd.underlying32 info5 rfl (by decide) (by decide) _ (outL ([y0, y1, y2, y3, y4, y5, y6, y7].take 2)) [y2 / 16777216 % 256, y2 / 65536 % 256, y2 / 256 % 256, y2 % 256] (some ⟨wr.heap.size, 0, none⟩) 4 4 (fun _ => True) (fun _ => False) rfl rfl (Kd.R_alloc HO.out _) (four_reads wr _ _ _ _) (fun _ _ h => h) (fun _ h => h.elim) (fun _ _ => trivial) (below_alloc HB7.out _) (below_alloc HB7.out _).size (by rw [outL_len, List.length_take]; simp) ?_; intro v1 w8 hr8 hb8 hg8 _; have HO8 := Aside0.mk hr8; have HB8 := Aside0.mk hb8; clear hr8 hb8 hg8))
                  go_roundg kq1
                  case measure => omega
                  case rel => exact ⟨3, by simp, ⟨by have := HT.out; omega, by decide⟩, ⟨HO8.out⟩, HB8⟩
                · go_wp2_with (first | ((with_reducible refine gate_builtin (b := .append) (xs := #[.tmp 55, .tmp 67]) rfl ?_); at_builtin; refine Kd.R_append_rows (Kd.int .u8) (w0 := w) w.heap.size rfl (.tmp 55) (.tmp 67) 32 5 (.int .u8 0) 1 rfl Tryd.underlying32 info5 rfl (by decide) (by decide) _ (outL ([y0, y1, y2, y3, y4, y5, y6, y7].take 3)) [y3 / 16777216 % 256, y3 / 65536 % 256, y3 / 256 % 256, y3 % 256] (some ⟨wr.heap.size, 0, none⟩) 4 4 (fun _ => True) (fun _ => False) rfl rfl (Kd.R_alloc HO.out _) (four_reads wr _ _ _ _) (fun _ _ h => h) (fun _ h => h.elim) (fun _ _ => trivial) (below_alloc HB7.out _) (below_alloc HB7.out _).size (by rw [outL_len, List.length_take]; simp) ?_; intro v1 w8 hr8 hb8 hg8 _; have HO8 := Aside0.mk hr8; have HB8 := Aside0.mk hb8; clear hr8 hb8 hg8))
                  go_roundg kq1
                  case measure => omega
                  case rel => exact ⟨4, by simp, ⟨by have := HT.out; omega, by decide⟩, ⟨HO8.out⟩, HB8⟩
                · go_wp2_with (first | ((with_reducible refine gate_builtin (b := .append) (xs := #[.tmp 55, .tmp 67]) rfl ?_); at_builtin; refine Kd.R_append_rows (Kd.int .u8) (w0 := w) w.heap.size rfl (.tmp 55) (.tmp 67) 32 5 (.int .u8 0) 1 rfl Tryd.underlying32 info5 rfl (by decide) (by decide) _ (outL ([y0, y1, y2, y3, y4, y5, y6, y7].take 4)) [y4 / 16777216 % 256, y4 / 65536 % 256, y4 / 256 % 256, y4 % 256] (some ⟨wr.heap.size, 0, none⟩) 4 4 (fun _ => True) (fun _ => False) rfl rfl (Kd.R_alloc HO.out _) (four_reads wr _ _ _ _) (fun _ _ h => h) (fun _ h => h.elim) (fun _ _ => trivial) (below_alloc HB7.out _) (below_alloc HB7.out _).size (by rw [outL_len, List.length_take]; simp) ?_; intro v1 w8 hr8 hb8 hg8 _; have HO8 := Aside0.mk hr8; have HB8 := Aside0.mk hb8; clear hr8 hb8 hg8))
                  go_roundg kq1
                  case measure => omega
                  case rel => exact ⟨5, by simp, ⟨by have := HT.out; omega, by decide⟩, ⟨HO8.out⟩, HB8⟩
                · go_wp2_with (first | ((with_reducible refine gate_builtin (b := .append) (xs := #[.tmp 55, .tmp 67]) rfl ?_); at_builtin; refine Kd.R_append_rows (Kd.int .u8) (w0 := w) w.heap.size rfl (.tmp 55) (.tmp 67) 32 5 (.int .u8 0) 1 rfl Tryd.underlying32 info5 rfl (by decide) (by decide) _ (outL ([y0, y1, y2, y3, y4, y5, y6, y7].take 5)) [y5 / 16777216 % 256, y5 / 65536 % 256, y5 / 256 % 256, y5 % 256] (some ⟨wr.heap.size, 0, none⟩) 4 4 (fun _ => True) (fun _ => False) rfl rfl (Kd.R_alloc HO.out _) (four_reads wr _ _ _ _) (fun _ _ h => h) (fun _ h => h.elim) (fun _ _ => trivial) (below_alloc HB7.out _) (below_alloc HB7.out _).size (by rw [outL_len, List.length_take]; simp) ?_; intro v1 w8 hr8 hb8 hg8 _; have HO8 := Aside0.mk hr8; have HB8 := Aside0.mk hb8; clear hr8 hb8 hg8))
                  go_roundg kq1
                  case measure => omega
                  case rel => exact ⟨6, by simp, ⟨by have := HT.out; omega, by decide⟩, ⟨HO8.out⟩, HB8⟩
                · go_wp2_with (first | ((with_reducible refine gate_builtin (b := .append) (xs := #[.tmp 55, .tmp 67]) rfl ?_); at_builtin; refine Kd.R_append_rows (Kd.int .u8) (w0 := w) w.heap.size rfl (.tmp 55) (.tmp 67) 32 5 (.int .u8 0) 1 rfl Tryd.underlying32 info5 rfl (by decide) (by decide) _ (outL ([y0, y1, y2, y3, y4, y5, y6, y7].take 6)) [y6 / 16777216 % 256, y6 / 65536 % 256, y6 / 256 % 256, y6 % 256] (some ⟨wr.heap.size, 0, none⟩) 4 4 (fun _ => True) (fun _ => False) rfl rfl (Kd.R_alloc HO.out _) (four_reads wr _ _ _ _) (fun _ _ h => h) (fun _ h => h.elim) (fun _ _ => trivial) (below_alloc HB7.out _) (below_alloc HB7.out _).size (by rw [outL_len, List.length_take]; simp) ?_; intro v1 w8 hr8 hb8 hg8 _; have HO8 := Aside0.mk hr8; have HB8 := Aside0.mk hb8; clear hr8 hb8 hg8))
                  go_roundg kq1
                  case measure => omega
                  case rel => exact ⟨7, by simp, ⟨by have := HT.out; omega, by decide⟩, ⟨HO8.out⟩, HB8⟩
                · go_wp2_with (first | ((with_reducible refine gate_builtin (b := .append) (xs := #[.tmp 55, .tmp 67]) rfl ?_); at_builtin; refine Kd.R_append_rows (Kd.int .u8) (w0 := w) w.heap.size rfl (.tmp 55) (.tmp 67) 32 5 (.int .u8 0) 1 rfl Tryd.underlying32 info5 rfl (by decide) (by decide) _ (outL ([y0, y1, y2, y3, y4, y5, y6, y7].take 7)) [y7 / 16777216 % 256, y7 / 65536 % 256, y7 / 256 % 256, y7 % 256] (some ⟨wr.heap.size, 0, none⟩) 4 4 (fun _ => True) (fun _ => False) rfl rfl (Kd.R_alloc HO.out _) (four_reads wr _ _ _ _) (fun _ _ h => h) (fun _ h => h.elim) (fun _ _ => trivial) (below_alloc HB7.out _) (below_alloc HB7.out _).size (by rw [outL_len, List.length_take]; simp) ?_; intro v1 w8 hr8 hb8 hg8 _; have HO8 := Aside0.mk hr8; have HB8 := Aside0.mk hb8; clear hr8 hb8 hg8))
                  go_roundg kq1
                  case measure => omega
                  case rel => exact ⟨8, by simp, ⟨by have := HT.out; omega, by decide⟩, ⟨HO8.out⟩, HB8⟩
              · obtain rfl : t = 8 := by have := HT.out; omega
                have hcv := own_string (P := Tryd.prog) Tryd.underlying32 Tryd.underlying5 Tryd.underlying9 (Kd.own_of_R HO.out)
                clear q1
                go_wp2
                go_ret
                exact ⟨by unfold sumL; rw [HAB.out, HY.out]; rfl, HB7.out⟩
end Go.Proofs.YtdnmllodefbekaaDoor.Sha
end

section
namespace Go.Proofs.YtdnmllodefbekaaDoor.Sha
open Go.RowKit Go.Lib Go.Proofs.YtdnmllodefbekaaDoorW.PrintWords Go.Proofs.YtdnmllodefbekaaDoorW.PrintLast Go.Proofs.YtdnmllodefbekaaDoorW.PrintMore
set_option linter.unusedVariables false
set_option linter.unusedSimpArgs false
/-- A key, each byte put together with another one. -/
def padL (key : List Int) (y : Int) : List Int := (key ++ List.replicate (64 - key.length) 0).map fun x => Go.bits .xor .u8 x y
def mixP (src : List Int) (y : Int) (t : Nat) : List Int := ((src.take t).map fun x => Go.bits .xor .u8 x y) ++ src.drop t
theorem mixP_len (src : List Int) (y : Int) (t : Nat) : (mixP src y t).length = src.length := by
  unfold mixP
  simp; omega
theorem rd_mixP (src : List Int) (y : Int) (t : Nat) (h : t < src.length) : rd (mixP src y t) t = rd src t := by
  unfold mixP rd
  simp [List.getD_eq_getElem?_getD, List.getElem?_append, Nat.min_eq_left (Nat.le_of_lt h)]
theorem mixP_set (src : List Int) (y : Int) (t : Nat) (h : t < src.length) : (mixP src y t).set t (Go.bits .xor .u8 (rd src t) y) = mixP src y (t + 1) := by
  unfold mixP
  rw [List.set_append_right _ _ (by simp; omega)]
  have e1 : ((src.take t).map fun x => Go.bits .xor .u8 x y).length = t := by rw [List.length_map, List.length_take]; omega
  rw [e1, Nat.sub_self, List.drop_eq_getElem_cons h, List.set_cons_zero, List.take_succ_eq_append_getElem h, List.map_append, List.append_assoc]
  congr 1
  simp [rd, List.getD_eq_getElem?_getD, h]
theorem mixP_end (src : List Int) (y : Int) (h : src.length = 64) : mixP src y 64 = src.map fun x => Go.bits .xor .u8 x y := by
  unfold mixP
  rw [List.take_of_length_le (by omega), List.drop_of_length_le (by omega), List.append_nil]
theorem info5' : (Tryd.prog.info? 5).map (·.size) = some 1 := by kernel_rfl
theorem byte_put (key : ByteArray) (h : key.size ≤ 64) : (((nums .u8 (List.replicate 64 0)).toArray.toList.take 0 ++ byteCells key.data.toList ++ (nums .u8 (List.replicate 64 0)).toArray.toList.drop (0 + key.size)).toArray) = (nums .u8 (bytesOf key ++ List.replicate (64 - (bytesOf key).length) 0)).toArray := by
  rw [bytesOf_length]
  congr 1
  have e : byteCells key.data.toList = nums .u8 (bytesOf key) := by simp [byteCells, nums, bytesOf]
  rw [e, List.take_zero, List.nil_append, Nat.zero_add, nums_append]
  congr 1
  unfold nums
  rw [← List.map_drop, List.drop_replicate]
theorem run_copy_pad (W : World) (g : Nat) (key : ByteArray) (h : key.size ≤ 64) (hg : W.heap[g]? = some (.cells (nums .u8 (List.replicate 64 0)).toArray 91 (0, 0))) :
    (Builtin.copy_ #[32, 9] 3 #[.slice (some ⟨g, 0, none⟩) 64 64, .string key]).run Tryd.prog W = .ok (goInt key.size) (W.setRow g (nums .u8 (bytesOf key ++ List.replicate (64 - (bytesOf key).length) 0)).toArray) := by
  rw [run_copy_row_string W 32 9 3 5 g 0 64 64 key _ 91 Tryd.underlying32 info5' hg h (by simp [nums]; omega), byte_put key h]
theorem pad_start (w : World) (key : ByteArray) (y_ : Int) : ((w.alloc (.cells (nums .u8 (List.replicate 64 0)).toArray 91)).setRow w.heap.size (nums .u8 (bytesOf key ++ List.replicate (64 - (bytesOf key).length) 0)).toArray).heap[w.heap.size]? = some (.cells (nums .u8 (mixP (bytesOf key ++ List.replicate (64 - (bytesOf key).length) 0) y_ 0)).toArray 91 (0, 0)) ∧
    Below w.heap.size w ((w.alloc (.cells (nums .u8 (List.replicate 64 0)).toArray 91)).setRow w.heap.size (nums .u8 (bytesOf key ++ List.replicate (64 - (bytesOf key).length) 0)).toArray) := by
  refine ⟨by simpa [mixP] using setRow_heap (w.alloc (.cells (nums .u8 (List.replicate 64 0)).toArray 91)) w.heap.size _ _ 91 _ (heap_alloc_new w _), ?_⟩
  refine (below_alloc (Below.refl w.heap.size w) _).grown (row := some w.heap.size) ⟨rfl, rfl, rfl, by simp [World.setRow], fun k _ hk => setRow_other _ _ k _ fun e => hk (by rw [e])⟩ (by simp) fun k hk => by injection hk with hk; omega
theorem copy_run {P : Program} {w w1 : World} {o : Oper} {a : Act} {d s : Operand} {dT sT : TypeId} {x y v : Value} (ho : o.op = .call { callee := .builtin .copy, args := #[d, s], argTypes := #[dT, sT] }) (hd : a.eval d = x) (hs : a.eval s = y) (h : (Builtin.copy_ #[dT, sT] o.type #[x, y]).run P w = .ok v w1) : (execOp a.eval o).run P w = .ok (.value v) w1 := by
  simp [execOp, ho, resolve, invoke, builtin, hd, hs, h, Result.andThen]
theorem row_reads {W : World} {g t n : Nat} {xs : List Int} (h : W.heap[g]? = some (.cells (nums .u8 xs).toArray t (0, 0))) (hn : xs.length = n) (hm : n ≤ 9223372036854775807 := by decide) : ReadsInt W .u8 (some ⟨g, 0, none⟩) n xs :=
  ⟨hn, hm, fun _ => ⟨_, rfl, fun j hj => by rw [add_plain, cell_nums h j (by omega)]; simp [rd]⟩⟩
set_option maxRecDepth 100000 in
set_option maxHeartbeats 8000000 in
theorem padded_walk (key : ByteArray) (y : Int) (w : World) (h : key.size ≤ 64) :
    Calls Tryd.prog 44 #[.string key, .int .u8 y] w fun e w' => e = .returned (.string (strOfNums (padL (bytesOf key) y))) ∧ Below w.heap.size w w' := by
  go_enter Tryd.func44, Tryd.ntmps44
  go_wp2_with (first | ((with_reducible refine gate_builtin (b := .copy) (xs := #[.tmp 7, .tmp 8]) rfl ?_); refine Kd.event_run (v := goInt key.size) (w1 := (w.alloc (.cells (nums .u8 (List.replicate 64 0)).toArray 91)).setRow w.heap.size (nums .u8 (bytesOf key ++ List.replicate (64 - (bytesOf key).length) 0)).toArray) rfl (copy_run rfl rfl rfl (run_copy_pad _ _ key h (heap_alloc_new w _))) ?_; have HW := Aside0.mk (pad_start w key y); generalize ((w.alloc (.cells (nums .u8 (List.replicate 64 0)).toArray 91)).setRow w.heap.size (nums .u8 (bytesOf key ++ List.replicate (64 - (bytesOf key).length) 0)).toArray) = w1 at HW ⊢))
  have hsl : (bytesOf key ++ List.replicate (64 - (bytesOf key).length) 0).length = 64 := by rw [List.length_append, List.length_replicate, bytesOf_length]; omega
  have HE := Aside0.mk (show padL (bytesOf key) y = mixP (bytesOf key ++ List.replicate (64 - (bytesOf key).length) 0) y 64 from by rw [mixP_end _ _ hsl]; rfl)
  have HL := Aside0.mk hsl
  generalize (bytesOf key ++ List.replicate (64 - (bytesOf key).length) 0) = src at *
  clear hsl
  go_loopg [10] 65 (fun kq v10 w' => ∃ t : Nat, v10 = .int .i64 (t : Int) ∧ Aside0 (t + kq = 65 ∧ t ≤ 64) ∧ Aside0 (w'.heap[w.heap.size]? = some (.cells (nums .u8 (mixP src y t)).toArray 91 (0, 0)) ∧ Below w.heap.size w w'))
  case atStart => exact ⟨0, rfl, ⟨rfl, Nat.zero_le _⟩, HW⟩
  case round =>
    obtain ⟨t, rfl, HT, HV⟩ := hrel
    by_cases q1 : t < 64
    · obtain ⟨kq1, rfl⟩ : ∃ kq1, gk = kq1 + 1 := ⟨gk - 1, by have := HT.out; omega⟩
      have q1' : (t : Int) < 64 := by omega
      have ht : t < src.length := by rw [HL.out]; exact q1
      have cz := cell_nums HV.out.1 t (by rw [mixP_len]; exact ht)
      have fz := blk_frozen HV.out.1 t
      rw [rd_mixP _ _ _ ht] at cz
      have HS := Aside0.mk (mixP_set src y t ht)
      have HQ := Aside0.mk q1
      generalize rd src (t : Nat) = x at *
      clear ht q1
      go_wp2
      go_roundg kq1
      case measure => omega
      case rel =>
        refine ⟨t + 1, by simp, ⟨by have := HT.out; omega, by have := HQ.out; omega⟩, ⟨?_, below_set HV.out.2 (Nat.le_refl _)⟩⟩
        rw [← HS.out]
        exact blk_put HV.out.1 t _ (by simp [nums, List.map_set])
    · have q1' : ¬ (t : Int) < 64 := by omega
      obtain rfl : t = 64 := by have := HT.out; omega
      have hcv := string_of_reads (P := Tryd.prog) (c := 64) Tryd.underlying32 Tryd.underlying5 Tryd.underlying9 (row_reads HV.out.1 (by rw [mixP_len, HL.out]))
      clear q1 q1'
      go_wp2
      go_ret
      exact ⟨by rw [HE.out]; rfl, HV.out.2⟩
end Go.Proofs.YtdnmllodefbekaaDoor.Sha
end

section
namespace Go.Proofs.YtdnmllodefbekaaDoor.Sha
open Go.RowKit Go.Lib Go.Proofs.YtdnmllodefbekaaDoorW.PrintWords Go.Proofs.YtdnmllodefbekaaDoorW.PrintLast Go.Proofs.YtdnmllodefbekaaDoorW.PrintMore
set_option linter.unusedVariables false
set_option linter.unusedSimpArgs false
def shaL (xs : List Int) : List Int := sumL (absorb (xs.length + 1) HS xs).1 (absorb (xs.length + 1) HS xs).2 (IntKind.u64.wrap (xs.length : Int))
theorem absorb_rest : ∀ (k : Nat) (st xs : List Int), xs.length < k → (absorb k st xs).2.length < 64
  | 0, _, _, h => by omega
  | k + 1, st, xs, h => by
    unfold absorb
    split
    · rename_i h1
      exact absorb_rest k _ _ (by rw [List.length_drop]; omega)
    · show xs.length < 64
      omega
theorem sha_walk (b : ByteArray) (w : World) (hL : Laid w) (h2 : 2 ≤ w.heap.size) (hb : b.size ≤ 1000000000) :
    Calls Tryd.prog 13 #[.string b] w fun e w' => e = .returned (.string (strOfNums (shaL (bytesOf b)))) ∧ Below w.heap.size w w' := by
  have HL := Aside0.mk hL
  clear hL
  go_enter Tryd.func13, Tryd.ntmps13
  go_wp2_with fail
  refine (new_walk w w HL.out (Below.refl _ _)).mono ?_
  rintro e w1 ⟨rfl, hI1, hB1⟩
  have HI := Aside0.mk (And.intro hI1 hB1)
  have hs1 := hB1.size
  clear hI1 hB1
  go_wp2_with fail
  refine (write_walk _ _ _ _ _ b w w1 HI.out.1 HL.out h2 HI.out.2 (by simp) hb).mono ?_
  rintro e w2 ⟨rfl, rv2, hI2, -, hB2⟩
  rw [List.nil_append, Int.zero_add] at hI2
  have HI2 := Aside0.mk (And.intro hI2 hB2)
  clear hI2 hB2
  go_wp2_with fail
  refine (sum_walk _ _ _ _ _ w w2 HI2.out.1 (HL.out.step HI2.out.2 h2) (Nat.le_trans h2 HI2.out.2.size) (absorb_rest _ _ _ (Nat.lt_succ_self _))).mono ?_
  rintro e w3 ⟨rfl, hB3⟩
  have HI3 := Aside0.mk (HI2.out.2.trans (hB3.mono HI2.out.2.size))
  clear hB3
  go_wp2
  go_ret
  exact ⟨by unfold shaL; rw [bytesOf_length]; rfl, HI3.out⟩
/-- The long key's digest. -/
def keyL (key : List Int) : List Int := if 64 < key.length then shaL key else key
def macL (key b : List Int) : List Int := shaL (padL (keyL key) 92 ++ shaL (padL (keyL key) 54 ++ b))
theorem outL_byte : ∀ (l : List Int), ∀ x ∈ outL l, 0 ≤ x ∧ x < 256
  | [], x, h => by simp [outL] at h
  | y :: l, x, h => by
    rw [outL] at h
    rcases List.mem_append.1 h with h | h
    · simp only [wordB, List.mem_cons, List.not_mem_nil, or_false] at h
      rcases h with rfl | rfl | rfl | rfl <;> omega
    · exact outL_byte l x h
theorem shaL_byte (xs : List Int) : ∀ x ∈ shaL xs, 0 ≤ x ∧ x < 256 := outL_byte _
theorem bytesOf_shaL (xs : List Int) : bytesOf (strOfNums (shaL xs)) = shaL xs := bytesOf_strOfNums _ (shaL_byte xs)
theorem absorb_len : ∀ (k : Nat) (st xs : List Int), st.length = 8 → (absorb k st xs).1.length = 8
  | 0, _, _, h => h
  | k + 1, st, xs, h => by
    unfold absorb
    split
    · exact absorb_len k _ _ (blk_len _ _ h)
    · exact h
theorem shaL_len (xs : List Int) : (shaL xs).length = 32 := by
  unfold shaL sumL
  rw [outL_len, absorb_len _ _ _ (absorb_len _ _ _ rfl)]
theorem padL_len (key : List Int) (y : Int) (h : key.length ≤ 64) : (padL key y).length = 64 := by
  unfold padL
  simp; omega
theorem bytesOf_append (a b : ByteArray) : bytesOf (a ++ b) = bytesOf a ++ bytesOf b := by simp [bytesOf, ByteArray.data_append]
theorem bytesOf_byte (b : ByteArray) : ∀ x ∈ bytesOf b, 0 ≤ x ∧ x < 256 := fun x hx => by
  unfold bytesOf at hx
  obtain ⟨u, -, rfl⟩ := List.mem_map.1 hx
  have := u.toNat_lt
  omega
theorem padL_byte (key : List Int) (y : Int) (hk : ∀ x ∈ key, 0 ≤ x ∧ x < 256) (hy : y = 92 ∨ y = 54) : ∀ x ∈ padL key y, 0 ≤ x ∧ x < 256 := fun x hx => by
  unfold padL at hx
  obtain ⟨z, -, rfl⟩ := List.mem_map.1 hx
  unfold bits
  simp only [IntKind.wrap_u8]
  omega
theorem mac_walk (key b : ByteArray) (w : World) (hL : Laid w) (h2 : 2 ≤ w.heap.size) (hk : key.size ≤ 1000000000) (hb : b.size ≤ 900000000) :
    Calls Tryd.prog 15 #[.string key, .string b] w fun e w' => e = .returned (.string (strOfNums (macL (bytesOf key) (bytesOf b)))) ∧ Below w.heap.size w w' := by
  have HL := Aside0.mk hL
  clear hL
  go_enter Tryd.func15, Tryd.ntmps15
  by_cases q1 : 64 < key.size
  · go_wp2_with fail
    refine (sha_walk _ _ HL.out h2 hk).mono ?_
    rintro e w1 ⟨rfl, hB1⟩
    have HB := Aside0.mk hB1
    obtain ⟨KK, hKK⟩ : ∃ KK, strOfNums (shaL (bytesOf key)) = KK := ⟨_, rfl⟩
    have hKb : (bytesOf KK).length ≤ 64 := by rw [← hKK, bytesOf_shaL, shaL_len]; omega
    have hK : KK.size ≤ 64 := by rw [bytesOf_length] at hKb; exact hKb
    have HE := Aside0.mk (show bytesOf KK = keyL (bytesOf key) from by unfold keyL; rw [if_pos (by rw [bytesOf_length]; exact q1), ← hKK, bytesOf_shaL])
    rw [hKK]
    clear hKK hB1
    go_wp2_with fail
    refine (padded_walk KK _ _ hK).mono ?_
    rintro e w2 ⟨rfl, hB2⟩
    have HB2 := Aside0.mk (below_step HB.out hB2)
    clear hB2
    go_wp2_with fail
    refine (padded_walk KK _ _ hK).mono ?_
    rintro e w3 ⟨rfl, hB3⟩
    have HB3 := Aside0.mk (below_step HB2.out hB3)
    clear hB3
    have hz1 : ¬ 9223372036854775807 < (strOfNums (padL (bytesOf KK) 54)).size + b.size := by rw [strOfNums_size', padL_len _ _ hKb]; omega
    go_wp2_with fail
    refine (sha_walk _ _ (HL.out.step HB3.out h2) (Nat.le_trans h2 HB3.out.size) (by simp only [ByteArray.size_append, strOfNums_size', padL_len _ _ hKb]; omega)).mono ?_
    rintro e w4 ⟨rfl, hB4⟩
    have HB4 := Aside0.mk (below_step HB3.out hB4)
    clear hB4 hz1
    obtain ⟨D, hD⟩ : ∃ D, strOfNums (shaL (bytesOf (strOfNums (padL (bytesOf KK) 54) ++ b))) = D := ⟨_, rfl⟩
    have hD2 : D.size = 32 := by rw [← hD, strOfNums_size', shaL_len]
    have hz2 : ¬ 9223372036854775807 < (strOfNums (padL (bytesOf KK) 92)).size + D.size := by rw [strOfNums_size', padL_len _ _ hKb]; omega
    rw [hD]
    have HD := Aside0.mk hD
    have HD2 := Aside0.mk hD2
    clear hD hD2
    go_wp2_with fail
    refine (sha_walk _ _ (HL.out.step HB4.out h2) (Nat.le_trans h2 HB4.out.size) (by simp only [ByteArray.size_append, strOfNums_size', padL_len _ _ hKb, HD2.out]; omega)).mono ?_
    rintro e w5 ⟨rfl, hB5⟩
    have HB5 := Aside0.mk (below_step HB4.out hB5)
    clear hB5
    go_wp2
    go_ret
    refine ⟨?_, HB5.out⟩
    unfold macL
    rw [← HD.out, ← HE.out, bytesOf_append, bytesOf_append, bytesOf_shaL, bytesOf_strOfNums _ (padL_byte _ _ (bytesOf_byte KK) (.inl rfl)), bytesOf_strOfNums _ (padL_byte _ _ (bytesOf_byte KK) (.inr rfl))]
    rfl
  · have hK : key.size ≤ 64 := by omega
    have hKb : (bytesOf key).length ≤ 64 := by rw [bytesOf_length]; exact hK
    have HE := Aside0.mk (show bytesOf key = keyL (bytesOf key) from by unfold keyL; rw [if_neg (by rw [bytesOf_length]; exact q1)])
    have HB := Aside0.mk (Below.refl w.heap.size w)
    go_wp2_with fail
    refine (padded_walk key _ _ hK).mono ?_
    rintro e w2 ⟨rfl, hB2⟩
    have HB2 := Aside0.mk (below_step HB.out hB2)
    clear hB2
    go_wp2_with fail
    refine (padded_walk key _ _ hK).mono ?_
    rintro e w3 ⟨rfl, hB3⟩
    have HB3 := Aside0.mk (below_step HB2.out hB3)
    clear hB3
    have hz1 : ¬ 9223372036854775807 < (strOfNums (padL (bytesOf key) 54)).size + b.size := by rw [strOfNums_size', padL_len _ _ hKb]; omega
    go_wp2_with fail
    refine (sha_walk _ _ (HL.out.step HB3.out h2) (Nat.le_trans h2 HB3.out.size) (by simp only [ByteArray.size_append, strOfNums_size', padL_len _ _ hKb]; omega)).mono ?_
    rintro e w4 ⟨rfl, hB4⟩
    have HB4 := Aside0.mk (below_step HB3.out hB4)
    clear hB4 hz1
    obtain ⟨D, hD⟩ : ∃ D, strOfNums (shaL (bytesOf (strOfNums (padL (bytesOf key) 54) ++ b))) = D := ⟨_, rfl⟩
    have hD2 : D.size = 32 := by rw [← hD, strOfNums_size', shaL_len]
    have hz2 : ¬ 9223372036854775807 < (strOfNums (padL (bytesOf key) 92)).size + D.size := by rw [strOfNums_size', padL_len _ _ hKb]; omega
    rw [hD]
    have HD := Aside0.mk hD
    have HD2 := Aside0.mk hD2
    clear hD hD2
    go_wp2_with fail
    refine (sha_walk _ _ (HL.out.step HB4.out h2) (Nat.le_trans h2 HB4.out.size) (by simp only [ByteArray.size_append, strOfNums_size', padL_len _ _ hKb, HD2.out]; omega)).mono ?_
    rintro e w5 ⟨rfl, hB5⟩
    have HB5 := Aside0.mk (below_step HB4.out hB5)
    clear hB5
    go_wp2
    go_ret
    refine ⟨?_, HB5.out⟩
    unfold macL
    rw [← HD.out, ← HE.out, bytesOf_append, bytesOf_append, bytesOf_shaL, bytesOf_strOfNums _ (padL_byte _ _ (bytesOf_byte key) (.inl rfl)), bytesOf_strOfNums _ (padL_byte _ _ (bytesOf_byte key) (.inr rfl))]
    rfl
end Go.Proofs.YtdnmllodefbekaaDoor.Sha
end

section
namespace Go.Proofs.YtdnmllodefbekaaDoor.Sha
open Go.RowKit Go.Lib Go.Proofs.YtdnmllodefbekaaDoorW.PrintWords Go.Proofs.YtdnmllodefbekaaDoorW.PrintLast Go.Proofs.YtdnmllodefbekaaDoorW.PrintMore
set_option linter.unusedVariables false
set_option linter.unusedSimpArgs false
section
variable {P : Program} {ops : Array Oper} {rest : List Oper} {o : Oper} {a : Act} {Q : Exit → Act → World → Prop} {α : Type}
theorem Kd.R_makecap (d : Kd α) {w0 W : World} (base e : Nat) (hgd : o.guard = none) {N : Tmp} (hd : o.dst = some N) (t : TypeId) (x y : Operand) (ho : o.op = .makeSlice t x y) (n : Int) (hx : a.eval x = .int .i64 0) (hy : a.eval y = .int .i64 n)
    (ht : P.underlying t = some (.slice e)) (z : Value) (bytes : Nat) (hinfo : (P.info? e).map (fun i => (i.zero, i.size, i.bytes)) = some (some z, d.sz, bytes)) (hz : z.cells.size = d.sz) (hs0 : 0 < d.sz) (hb0 : 0 < bytes)
    (z0 : α) {ok okp : Nat → Prop} (hzero : d.M W base okp z0 z.cells.toList) (hok : ∀ k, okp k → ok k) (hfresh : ok W.heap.size) (h0 : 0 ≤ n) (hl : n.toNat * bytes ≤ 281474976710656) (HB : Below base w0 W) (hbase : base ≤ W.heap.size)
    (h : ∀ v1 w1, d.R e w1 base ok v1 ([] : List α) → Below base w0 w1 → W.grownBy w1 none → (∃ b, v1.ownBlock = some b ∧ W.heap.size ≤ b) → wpList P ops Q rest (a.put o.dst v1) w1) : wpList P ops Q (o :: rest) a W := by
  obtain ⟨m, rfl⟩ := Int.eq_ofNat_of_zero_le h0
  simp only [Int.toNat_natCast] at hl h
  obtain ⟨i0, hi, hzz⟩ := Option.map_eq_some_iff.1 hinfo
  simp only [Prod.mk.injEq] at hzz
  obtain ⟨hz0, hz1, hz2⟩ := hzz
  have hm : m ≤ 281474976710656 := Nat.le_trans (Nat.le_mul_of_pos_right _ hb0) hl
  have hr := run_make (P := P) W t e i0 z ht hi hz0 .i64 .i64 (0 : Int) (m : Int) (by omega) (by omega)
    (by
      have h3 : ((i0.bytes * m : Nat) : Int) ≤ 281474976710656 := by rw [hz2, Nat.mul_comm]; omega
      rwa [Int.natCast_mul] at h3) (by omega)
  simp only [Int.toNat_natCast, Int.toNat_zero] at hr
  rw [hz1] at hr
  have hrun : (execOp a.eval o).run P W = .ok (.value (.slice (some ⟨W.heap.size, 0, none⟩) 0 m)) (W.alloc (.cells (madeCells z.cells (m * d.sz)) e)) := by simp [execOp, ho, hx, hy, hr]
  have hown : (W.alloc (.cells (madeCells z.cells (m * d.sz)) e)).ownsRow base e d.sz (.slice (some ⟨W.heap.size, 0, none⟩) 0 m) ([] : List α).length [] :=
    ⟨by simp, .inr ⟨W.heap.size, m, madeCells z.cells (m * d.sz), rfl, hbase, heap_alloc_new W _, Nat.zero_le _, by unfold maxLen; omega, by simp [madeCells], by simp⟩⟩
  refine Kd.event_run hgd hrun (h _ _ ⟨?_, [], hown, Reps.none _ _⟩ (HB.alloc hbase _) (World.grownBy_alloc W _ none) ⟨W.heap.size, rfl, Nat.le_refl _⟩)
  intro k hk
  have : W.heap.size = k := by simpa [Value.ownBlock] using hk
  subst this; exact hfresh
end
def hexD (x : Int) : Int := if x < 10 then 48 + x else 87 + x
def hexL : List Int → List Int
  | [] => []
  | x :: l => hexD (x / 16) :: hexD (x % 16) :: hexL l
theorem hexL_len : ∀ l : List Int, (hexL l).length = 2 * l.length
  | [] => rfl
  | x :: l => by simp only [hexL, List.length_cons, hexL_len l]; omega
theorem hexL_snoc : ∀ (l : List Int) (x : Int), hexL (l ++ [x]) = hexL l ++ [hexD (x / 16), hexD (x % 16)]
  | [], x => rfl
  | y :: l, x => by simp only [hexL, List.cons_append, hexL_snoc l x]
theorem idx_hex (v : Int) (h0 : 0 ≤ v) (h1 : v < 16) (W : World) : (Instr.index 9 (.string ⟨#[48, 49, 50, 51, 52, 53, 54, 55, 56, 57, 97, 98, 99, 100, 101, 102]⟩) (.int .u8 v)).run Tryd.prog W = .ok (.int .u8 (hexD v)) W := by
  rw [run_index_string W 9 _ .u8 v Tryd.underlying9]
  have hv : v = 0 ∨ v = 1 ∨ v = 2 ∨ v = 3 ∨ v = 4 ∨ v = 5 ∨ v = 6 ∨ v = 7 ∨ v = 8 ∨ v = 9 ∨ v = 10 ∨ v = 11 ∨ v = 12 ∨ v = 13 ∨ v = 14 ∨ v = 15 := by omega
  rcases hv with rfl | rfl | rfl | rfl | rfl | rfl | rfl | rfl | rfl | rfl | rfl | rfl | rfl | rfl | rfl | rfl <;> rfl
theorem bt_rd (s : ByteArray) (i : Nat) (h : i < s.size) : ∃ b : Int, 0 ≤ b ∧ b < 256 ∧ rd (bytesOf s) (i : Nat) = b ∧ ∀ h' : i < s.size, ((s[i]'h').toNat : Int) = b := by
  refine ⟨bt s (i : Nat), (bt_range s _).1, by have := (bt_range s (i : Nat)).2; omega, rd_bytesOf s _, fun h' => ?_⟩
  have := bt_at s (i : Nat) (by simpa using h)
  simpa using this
def hexR (b : ByteArray) : Value := if 262144 < b.size then .tuple #[.string ⟨#[]⟩, .int .i64 2] else .tuple #[.string (strOfNums (hexL (bytesOf b))), .int .i64 0]
theorem two_reads (W : World) (a b : Int) : Kd.C (Kd.int .u8) (W.alloc (.cells #[.int .u8 a, .int .u8 b] 5)) (some ⟨W.heap.size, 0, none⟩) 2 [a, b] := by
  refine Kd.C_of_reads (enc := Value.int .u8) (d := 0) (h1 := fun _ => rfl) ⟨rfl, by decide, fun _ => ⟨_, rfl, fun j hj => ?_⟩⟩
  rw [add_plain, blk_cell (heap_alloc_new W (.cells #[.int .u8 a, .int .u8 b] 5)) j]
  rcases j with _ | _ | j
  · rfl
  · rfl
  · omega
theorem hexL_take_succ (b : ByteArray) (t : Nat) (h : t < b.size) : hexL ((bytesOf b).take (t + 1)) = hexL ((bytesOf b).take t) ++ [hexD (rd (bytesOf b) t / 16), hexD (rd (bytesOf b) t % 16)] := by
  have hl : t < (bytesOf b).length := by rw [bytesOf_length]; exact h
  rw [List.take_succ_eq_append_getElem hl, hexL_snoc]
  simp [rd, List.getD_eq_getElem?_getD, hl]
attribute [local go_sem high] idx_hex
set_option maxRecDepth 100000 in
set_option maxHeartbeats 8000000 in
theorem hex_walk (b : ByteArray) (w : World) :
    Calls Tryd.prog 20 #[.string b] w fun e w' => e = .returned (hexR b) ∧ Below w.heap.size w w' := by
  go_enter Tryd.func20, Tryd.ntmps20
  unfold hexR
  by_cases q0 : 262144 < b.size
  · rw [if_pos q0]
    go_wp2
    go_ret2
    exact ⟨rfl, Below.refl _ _⟩
  · rw [if_neg q0]
    go_wp2_with (first | ((with_reducible refine gate_dst (N := 12) rfl ?_); refine Kd.R_makecap (Kd.int .u8) (w0 := w) w.heap.size 5 rfl (N := 12) rfl 32 _ _ rfl (2 * (b.size : Int)) rfl rfl Tryd.underlying32 (.int .u8 0) 1 info5 rfl (by decide) (by omega) 0 (ok := fun _ => True) (okp := fun _ => True) rfl (fun _ hk => hk) trivial (by omega) (by omega) (Below.refl _ _) (Nat.le_refl _) ?_; intro v12 w1 hr1 hb1 hg1 hn1; have HO := Aside0.mk hr1; have HB := Aside0.mk hb1; clear hr1 hb1 hg1 hn1))
    go_loopg [4, 15] (b.size + 1) (fun kq v4 v15 w' => ∃ t : Nat, v15 = .int .i64 (t : Int) ∧ Aside0 (t + kq = b.size + 1 ∧ t ≤ b.size) ∧ Aside0 (Kd.R (Kd.int .u8) 5 w' w.heap.size (fun _ => True) v4 (hexL ((bytesOf b).take t))) ∧ Aside0 (Below w.heap.size w w'))
    case atStart => exact ⟨0, rfl, ⟨by omega, Nat.zero_le _⟩, HO, HB⟩
    case round =>
      obtain ⟨t, rfl, HT, HO2, HB2⟩ := hrel
      clear HO HB
      obtain ⟨A4, c4, rfl⟩ := Kd.R_slice HO2.out
      have hlo : (hexL ((bytesOf b).take t)).length = 2 * t := by rw [hexL_len, List.length_take, bytesOf_length, Nat.min_eq_left HT.out.2]
      rw [hlo] at HO2 ⊢
      clear hlo
      by_cases q1 : t < b.size
      · obtain ⟨kq1, rfl⟩ : ∃ kq1, gk = kq1 + 1 := ⟨gk - 1, by have := HT.out; omega⟩
        obtain ⟨x, hx0, hx1, hxr, hxb⟩ := bt_rd b t q1
        have hv1 : 0 ≤ x / 16 := by omega
        have hv2 : x / 16 < 16 := by omega
        have hv3 : 0 ≤ x % 16 := by omega
        have hv4 : x % 16 < 16 := by omega
        have ha : bits .and .u8 x 15 = x % 16 := bits_mask .u8 8 (by decide) wraps_u8 4 (by decide) x hx0 hx1
        go_wp2_with fail
        go_region_held3 (fun _ => True) (exact trivial)
          (first | (refine Kd.R_append_rows_step (Kd.int .u8) (w0 := w) w.heap.size (by rfl) (.tmp 18) (.tmp 29) 32 5 (.int .u8 0) 1 rfl Tryd.underlying32 info5 rfl (by decide) (by decide) _ (hexL ((bytesOf b).take t)) [hexD (x / 16), hexD (x % 16)] (some ⟨wr.heap.size, 0, none⟩) 2 2 (fun _ => True) (fun _ => False) rfl rfl ?aO ?aC (fun _ _ h => h) (fun _ h => h.elim) (fun _ _ => trivial) ?aB ?aS (by rw [hexL_len, List.length_take]; simp; omega) ?_; (case aO => first | exact Kd.R_alloc (Kd.R_drew HO2.out) _ | exact Kd.R_drew (Kd.R_alloc HO2.out _)); (case aC => exact two_reads _ _ _); (case aB => first | exact below_alloc (below_drew1 HB2.out) _ | exact below_drew1 (below_alloc HB2.out _)); (case aS => first | exact (below_alloc (below_drew1 HB2.out) _).size | exact (below_drew1 (below_alloc HB2.out _)).size); intro v1 w8 hr8 hb8 hg8 hat8; have HO8 := Aside0.mk hr8; have HB8 := Aside0.mk hb8; clear hr8 hb8 hg8 hat8))
        all_goals
          go_wp2_with fail
          go_roundg kq1
          case measure => omega
          case rel => exact ⟨t + 1, by simp, ⟨by have := HT.out; omega, q1⟩, ⟨by rw [hexL_take_succ b t q1, hxr]; exact HO8.out⟩, HB8⟩
      · obtain rfl : t = b.size := by have := HT.out; omega
        have hall : (bytesOf b).take b.size = bytesOf b := List.take_of_length_le (by rw [bytesOf_length]; exact Nat.le_refl _)
        rw [hall] at HO2
        have hcv := own_string (P := Tryd.prog) Tryd.underlying32 Tryd.underlying5 Tryd.underlying9 (Kd.own_of_R HO2.out)
        clear q1 hall
        go_wp2
        go_ret2
        exact ⟨rfl, HB2.out⟩
end Go.Proofs.YtdnmllodefbekaaDoor.Sha
end

section
namespace Go.Proofs.YtdnmllodefbekaaDoor.Sha
open Go.RowKit Go.Lib Go.Proofs.YtdnmllodefbekaaDoorW.PrintWords Go.Proofs.YtdnmllodefbekaaDoorW.PrintLast Go.Proofs.YtdnmllodefbekaaDoorW.PrintMore
set_option linter.unusedVariables false
set_option linter.unusedSimpArgs false
theorem abc_ev : shaL [97, 98, 99] = [186, 120, 22, 191, 143, 1, 207, 234, 65, 65, 64, 222, 93, 174, 34, 35, 176, 3, 97, 163, 150, 23, 122, 156, 180, 16, 255, 97, 242, 0, 21, 173] := by decide +kernel
theorem mac_ev : macL [74, 101, 102, 101] [119, 104, 97, 116, 32, 100, 111, 32, 121, 97, 32, 119, 97, 110, 116, 32, 102, 111, 114, 32, 110, 111, 116, 104, 105, 110, 103, 63] = [91, 220, 193, 70, 191, 96, 117, 78, 106, 4, 36, 38, 8, 149, 117, 199, 90, 0, 63, 8, 157, 39, 57, 131, 157, 236, 88, 185, 100, 236, 56, 67] := by decide +kernel
theorem abc_hex : hexR (strOfNums (shaL (bytesOf ⟨#[97, 98, 99]⟩))) = .tuple #[.string ⟨#[98, 97, 55, 56, 49, 54, 98, 102, 56, 102, 48, 49, 99, 102, 101, 97, 52, 49, 52, 49, 52, 48, 100, 101, 53, 100, 97, 101, 50, 50, 50, 51, 98, 48, 48, 51, 54, 49, 97, 51, 57, 54, 49, 55, 55, 97, 57, 99, 98, 52, 49, 48, 102, 102, 54, 49, 102, 50, 48, 48, 49, 53, 97, 100]⟩, .int .i64 0] := by
  rw [show bytesOf ⟨#[97, 98, 99]⟩ = [97, 98, 99] from rfl, abc_ev]
  kernel_rfl
theorem mac_hex : hexR (strOfNums (macL (bytesOf ⟨#[74, 101, 102, 101]⟩) (bytesOf ⟨#[119, 104, 97, 116, 32, 100, 111, 32, 121, 97, 32, 119, 97, 110, 116, 32, 102, 111, 114, 32, 110, 111, 116, 104, 105, 110, 103, 63]⟩))) = .tuple #[.string ⟨#[53, 98, 100, 99, 99, 49, 52, 54, 98, 102, 54, 48, 55, 53, 52, 101, 54, 97, 48, 52, 50, 52, 50, 54, 48, 56, 57, 53, 55, 53, 99, 55, 53, 97, 48, 48, 51, 102, 48, 56, 57, 100, 50, 55, 51, 57, 56, 51, 57, 100, 101, 99, 53, 56, 98, 57, 54, 52, 101, 99, 51, 56, 52, 51]⟩, .int .i64 0] := by
  rw [show bytesOf ⟨#[74, 101, 102, 101]⟩ = [74, 101, 102, 101] from rfl, show bytesOf ⟨#[119, 104, 97, 116, 32, 100, 111, 32, 121, 97, 32, 119, 97, 110, 116, 32, 102, 111, 114, 32, 110, 111, 116, 104, 105, 110, 103, 63]⟩ = [119, 104, 97, 116, 32, 100, 111, 32, 121, 97, 32, 119, 97, 110, 116, 32, 102, 111, 114, 32, 110, 111, 116, 104, 105, 110, 103, 63] from rfl, mac_ev]
  kernel_rfl
theorem works_walk (w : World) (hL : Laid w) (h2 : 2 ≤ w.heap.size) :
    Calls Tryd.prog 12 #[] w fun e w' => e = .returned (.bool true) ∧ Below w.heap.size w w' := by
  have HL := Aside0.mk hL
  clear hL
  go_enter Tryd.func12, Tryd.ntmps12
  go_wp2_with fail
  refine (sha_walk _ _ HL.out h2 (by decide)).mono ?_
  rintro e w1 ⟨rfl, hB1⟩
  have HB1 := Aside0.mk hB1
  clear hB1
  go_wp2_with fail
  refine (hex_walk _ _).mono ?_
  rw [abc_hex]
  rintro e w2 ⟨rfl, hB2⟩
  have HB2 := Aside0.mk (below_step HB1.out hB2)
  clear hB2
  go_wp2_with fail
  refine (mac_walk _ _ _ (HL.out.step HB2.out h2) (Nat.le_trans h2 HB2.out.size) (by decide) (by decide)).mono ?_
  rintro e w3 ⟨rfl, hB3⟩
  have HB3 := Aside0.mk (below_step HB2.out hB3)
  clear hB3
  go_wp2_with fail
  refine (hex_walk _ _).mono ?_
  rw [mac_hex]
  rintro e w4 ⟨rfl, hB4⟩
  have HB4 := Aside0.mk (below_step HB3.out hB4)
  clear hB4
  go_wp2
  go_ret
  exact ⟨rfl, HB4.out⟩
end Go.Proofs.YtdnmllodefbekaaDoor.Sha
end

section
namespace Go.Proofs.YtdnmllodefbekaaDoor.Sha
open Go.RowKit Go.Lib Go.Proofs.YtdnmllodefbekaaDoorW.PrintWords Go.Proofs.YtdnmllodefbekaaDoorW.PrintLast Go.Proofs.YtdnmllodefbekaaDoorW.PrintMore
set_option linter.unusedVariables false
set_option linter.unusedSimpArgs false
/-- A digit's value. -/
def dg (c : Int) : Option Int := if 48 ≤ c ∧ c ≤ 57 then some (c - 48) else if 97 ≤ c ∧ c ≤ 102 then some (c - 87) else none
def unh : List Int → Option (List Int)
  | [] => some []
  | [_] => none
  | a :: c :: l => match dg a, dg c with
    | some x, some y => (unh l).map fun r => (x * 16 + y) :: r
    | _, _ => none
theorem dg_hexD (v : Int) (h0 : 0 ≤ v) (h1 : v < 16) : dg (hexD v) = some v := by
  unfold dg hexD
  by_cases h : v < 10
  · rw [if_pos h, if_pos (by omega)]
    congr 1; omega
  · rw [if_neg h, if_neg (by omega), if_pos (by omega)]
    congr 1; omega
theorem hexD_dg (c x : Int) (h : dg c = some x) : hexD x = c ∧ 0 ≤ x ∧ x < 16 := by
  unfold dg at h
  unfold hexD
  split at h
  · injection h with h
    rw [if_pos (by omega)]; omega
  · split at h
    · injection h with h
      rw [if_neg (by omega)]; omega
    · exact absurd h (by simp)
theorem unh_hexL : ∀ l : List Int, (∀ x ∈ l, 0 ≤ x ∧ x < 256) → unh (hexL l) = some l
  | [], _ => rfl
  | x :: l, h => by
    have hx := h x (by simp)
    rw [hexL, unh, dg_hexD _ (by omega) (by omega), dg_hexD _ (by omega) (by omega), unh_hexL l fun y hy => h y (by simp [hy])]
    simp; omega
theorem hexL_unh : ∀ (s r : List Int), unh s = some r → hexL r = s ∧ ∀ x ∈ r, 0 ≤ x ∧ x < 256
  | [], r, h => by
    rw [unh] at h; injection h with h; subst h
    exact ⟨rfl, by simp⟩
  | [_], r, h => by simp [unh] at h
  | a :: c :: l, r, h => by
    rw [unh] at h
    split at h
    · rename_i x y hx hy
      obtain ⟨r1, hr, rfl⟩ := Option.map_eq_some_iff.1 h
      obtain ⟨h1, h2⟩ := hexL_unh l r1 hr
      obtain ⟨ha, ha0, ha1⟩ := hexD_dg a x hx
      obtain ⟨hc, hc0, hc1⟩ := hexD_dg c y hy
      refine ⟨?_, fun z hz => ?_⟩
      · rw [hexL, h1, show (x * 16 + y) / 16 = x by omega, show (x * 16 + y) % 16 = y by omega, ha, hc]
      · rcases List.mem_cons.1 hz with rfl | hz
        · omega
        · exact h2 z hz
    · exact absurd h (by simp)
theorem strOfNums_bytesOf (b : ByteArray) : strOfNums (bytesOf b) = b := by
  cases b with
  | mk d =>
    unfold strOfNums bytesOf
    congr 1
    apply Array.ext'
    simp [Function.comp_def]
theorem hexL_byte : ∀ (l : List Int), (∀ x ∈ l, 0 ≤ x ∧ x < 256) → ∀ x ∈ hexL l, 0 ≤ x ∧ x < 256
  | [], _, x, h => by simp [hexL] at h
  | y :: l, hl, x, h => by
    have hy := hl y (by simp)
    rw [hexL] at h
    rcases List.mem_cons.1 h with rfl | h
    · unfold hexD; split <;> omega
    rcases List.mem_cons.1 h with rfl | h
    · unfold hexD; split <;> omega
    · exact hexL_byte l (fun z hz => hl z (by simp [hz])) x h
/-- What Unhex answers. -/
def unR (s : ByteArray) : ByteArray × Int := if s.size % 2 ≠ 0 ∨ 524288 < s.size then (⟨#[]⟩, 3) else match unh (bytesOf s) with
  | some r => (strOfNums r, 0)
  | none => (⟨#[]⟩, 3)
theorem unR_hex (b : ByteArray) (h : b.size ≤ 262144) : unR (strOfNums (hexL (bytesOf b))) = (b, 0) := by
  unfold unR
  rw [strOfNums_size', hexL_len, bytesOf_length, if_neg (by omega), bytesOf_strOfNums _ (hexL_byte _ (bytesOf_byte b)), unh_hexL _ (bytesOf_byte b)]
  simp only [strOfNums_bytesOf]
theorem unR_two (s : ByteArray) : ((unR s).2 = 3 ∧ (unR s).1 = ⟨#[]⟩) ∨ ((unR s).2 = 0 ∧ (unR s).1.size ≤ 262144 ∧ strOfNums (hexL (bytesOf (unR s).1)) = s) := by
  unfold unR
  split
  · exact .inl ⟨rfl, rfl⟩
  · rename_i hs
    rcases hu : unh (bytesOf s) with _ | r
    · exact .inl ⟨rfl, rfl⟩
    · obtain ⟨h1, h2⟩ := hexL_unh _ _ hu
      refine .inr ⟨rfl, ?_, ?_⟩
      · show (strOfNums r).size ≤ 262144
        have := congrArg List.length h1
        rw [hexL_len, bytesOf_length] at this
        rw [strOfNums_size']; omega
      · show strOfNums (hexL (bytesOf (strOfNums r))) = s
        rw [bytesOf_strOfNums _ h2, h1, strOfNums_bytesOf]
end Go.Proofs.YtdnmllodefbekaaDoor.Sha
end

section
namespace Go.Proofs.YtdnmllodefbekaaDoor.Sha
open Go.RowKit Go.Lib Go.Proofs.YtdnmllodefbekaaDoorW.PrintWords Go.Proofs.YtdnmllodefbekaaDoorW.PrintLast Go.Proofs.YtdnmllodefbekaaDoorW.PrintMore
set_option linter.unusedVariables false
set_option linter.unusedSimpArgs false
theorem absorb_fuel : ∀ (k m : Nat) (st xs : List Int), xs.length < k → xs.length < m → absorb k st xs = absorb m st xs
  | 0, _, _, _, h, _ => by omega
  | k + 1, 0, _, _, _, h => by omega
  | k + 1, m + 1, st, xs, hk, hm => by
    unfold absorb
    split
    · exact absorb_fuel k m _ _ (by rw [List.length_drop]; omega) (by rw [List.length_drop]; omega)
    · rfl
/-- What is written in pieces is absorbed as the whole. -/
theorem absorb_cat : ∀ (k : Nat) (st xs ys : List Int), xs.length < k → absorb (xs.length + ys.length + 1) st (xs ++ ys) = absorb (((absorb k st xs).2 ++ ys).length + 1) (absorb k st xs).1 ((absorb k st xs).2 ++ ys)
  | 0, _, _, _, h => by omega
  | k + 1, st, xs, ys, h => by
    by_cases q : 64 ≤ xs.length
    · have e : absorb (k + 1) st xs = absorb k (blk st (xs.take 64)) (xs.drop 64) := by
        rw [absorb, if_pos q]
      rw [e, absorb, if_pos (by rw [List.length_append]; omega), List.take_append_of_le_length q, List.drop_append_of_le_length q, ← absorb_cat k _ _ ys (by rw [List.length_drop]; omega)]
      exact absorb_fuel _ _ _ _ (by rw [List.length_append, List.length_drop]; omega) (by rw [List.length_append, List.length_drop]; omega)
    · have e : absorb (k + 1) st xs = (st, xs) := by
        rw [absorb, if_neg q]
      rw [e, List.length_append]
/-- The state behind all that was written. -/
def stOf (all : List Int) : List Int := (absorb (all.length + 1) HS all).1
def restOf (all : List Int) : List Int := (absorb (all.length + 1) HS all).2
theorem st_cat (all ys : List Int) : (absorb ((restOf all ++ ys).length + 1) (stOf all) (restOf all ++ ys)).1 = stOf (all ++ ys) := by
  unfold stOf restOf
  rw [← absorb_cat (all.length + 1) HS all ys (by omega), List.length_append]
theorem rest_cat (all ys : List Int) : (absorb ((restOf all ++ ys).length + 1) (stOf all) (restOf all ++ ys)).2 = restOf (all ++ ys) := by
  unfold stOf restOf
  rw [← absorb_cat (all.length + 1) HS all ys (by omega), List.length_append]
theorem rest_lt (all : List Int) : (restOf all).length < 64 := absorb_rest _ _ _ (Nat.lt_succ_self _)
theorem sum_all (all : List Int) : sumL (stOf all) (restOf all) (IntKind.u64.wrap (all.length : Int)) = shaL all := rfl
theorem wrap_cat (a b : Nat) : IntKind.u64.wrap (IntKind.u64.wrap (a : Int) + (b : Int)) = IntKind.u64.wrap ((a + b : Nat) : Int) := by
  simp only [IntKind.wrap_u64]; omega
end Go.Proofs.YtdnmllodefbekaaDoor.Sha
end

section
namespace Go.Proofs.YtdnmllodefbekaaDoor.PShaTexts
open Go.RowKit Go.Proofs.YtdnmllodefbekaaDoorW.PrintWords Go.Proofs.YtdnmllodefbekaaDoorW.PrintLast Go.Proofs.YtdnmllodefbekaaDoorW.PrintMore
attribute [local go_sem] max2_int min2_int max_two min_two max_three min_three max_four min_four   -- for this text's walks alone
set_option linter.unusedVariables false
set_option linter.unusedSimpArgs false



def errW : Option Int → Value
  | none => .nilIface
  | some c => .iface 0 (.int .i64 c)
theorem errW_none : errW none = .nilIface := rfl
theorem errW_some (c : Int) : errW (some c) = .iface 0 (.int .i64 c) := rfl

theorem info5 : (Tryd.prog.info? 5).map (fun i => (i.zero, i.size, i.bytes)) = some (some (.int .u8 0), 1, 1) := by kernel_rfl
-- the values' own types


/-! ### sha_Equal: function 24 -/
def sha_Equal.l0 : Nat → ByteArray → ByteArray → Int → Int → Int → Option (Bool)
  | 0, _, _, _, _, _ => none
  | k + 1, x0, x1, x5, x13, x14 => if x14 < x13 then (if 0 ≤ x14 then (if x14 < (x0.size : Int) then (if x14 < (x1.size : Int) then (sha_Equal.l0 k x0 x1 (Go.bits .or .u8 x5 (Go.bits .xor .u8 (bt x0 x14) (bt x1 x14))) x13 (wrap64 (x14 + 1))) else (none)) else (none)) else (none)) else (some (x5 == 0))
def sha_Equal.f (k : Nat) (a0 : ByteArray) (a1 : ByteArray) : Option (Bool) := if (a0.size : Int) = (a1.size : Int) then (sha_Equal.l0 k a0 a1 0 (a0.size : Int) 0) else (some false)
theorem sha_Equal.mono_l : ∀ k, (∀ y0 y1 y2 y3 y4, LeO (sha_Equal.l0 k y0 y1 y2 y3 y4) (sha_Equal.l0 (k + 1) y0 y1 y2 y3 y4))
  | 0 => fun _ _ _ _ _ r h => by simp [sha_Equal.l0] at h
  | k + 1 => by
    have ih0 := sha_Equal.mono_l k
    · intro y0 y1 y2 y3 y4
      unfold sha_Equal.l0
      repeat' first
      | (with_reducible exact ih0 _ _ _ _ _)
      | (with_reducible exact LeO.refl _)
      | (with_reducible exact LeO.none _)
      | (with_reducible refine LeO.ite ?_ ?_)
      | (with_reducible refine LeO.bind ?_ (fun _ => ?_))
      | exact ih0 _ _ _ _ _
      | exact LeO.none _
      | refine LeO.ite ?_ ?_
      | refine LeO.bind ?_ (fun _ => ?_)
theorem sha_Equal.mono : ∀ a0 a1 k, LeO (sha_Equal.f k a0 a1) (sha_Equal.f (k + 1) a0 a1) := by
  intro a0 a1 k
  have ih0 := sha_Equal.mono_l k
  unfold sha_Equal.f
  repeat' first
      | (with_reducible exact ih0 _ _ _ _ _)
      | (with_reducible exact LeO.refl _)
      | (with_reducible exact LeO.none _)
      | (with_reducible refine LeO.ite ?_ ?_)
      | (with_reducible refine LeO.bind ?_ (fun _ => ?_))
      | exact ih0 _ _ _ _ _
      | exact LeO.none _
      | refine LeO.ite ?_ ?_
      | refine LeO.bind ?_ (fun _ => ?_)
set_option maxHeartbeats 8000000 in
set_option maxRecDepth 100000 in
theorem sha_Equal.calls (k : Nat) (a0 : ByteArray) (a1 : ByteArray) (r : Bool) (w : World) (h : sha_Equal.f k a0 a1 = some r) :
    Calls Tryd.prog 24 #[.string a0, .string a1] w fun e w' => e = .returned (.bool r) ∧ Drawn0 w w' := by
  have H : (if (a0.size : Int) = (a1.size : Int) then (sha_Equal.l0 k a0 a1 0 (a0.size : Int) 0) else (some false)) = some r := h
  clear h
  by_cases c3 : (a0.size : Int) = (a1.size : Int)
  · rw [if_pos c3] at H
    have c3b0 : ((a0.size : Int) == (a1.size : Int)) = true := beq_iff_eq.mpr c3
    have c3b1 : ((a0.size : Int) != (a1.size : Int)) = false := bne_eq_false_iff_eq.mpr c3
    have c3b2 : (a0.size == a1.size) = true := by first | simpa using c3 | (simp at c3 ⊢; omega)
    clear c3
    have H' := Aside0.mk H
    clear H
    go_enter Tryd.func24, Tryd.ntmps24
    go_wp2
    repeat (go_quiet (fail); try go_wp2)
    go_loopg [5, 14] k (fun kq v5 v14 w' => ∃ (x5_1 : Int) (x14_1 : Int), v5 = .int .u8 x5_1 ∧ v14 = .int .i64 x14_1 ∧ Aside0 (sha_Equal.l0 kq a0 a1 x5_1 (a0.size : Int) x14_1 = some r) ∧ Aside0 (kq ≤ k) ∧ Drawn0 w w')
    case atStart => exact ⟨(0), (0), (by first | rfl | (simp; done) | (simp [*]; done)), (by first | rfl | (simp; done) | (simp [*]; done)), H', ⟨Nat.le_refl _⟩, by repeat (first | exact Drawn0.refl _ | apply Drawn0.step)⟩
    case round =>
      clear H'
      try clear c2
      try clear p2
      try clear c3
      try clear c3b0
      try clear c3b1
      try clear c3b2
      obtain ⟨x5_1, x14_1, rfl, rfl, HA, HK1, ⟨m1, rfl⟩⟩ := hrel
      cases gk with
      | zero => exact absurd HA.out (by simp [sha_Equal.l0])
      | succ k1 =>
        have H := HA.out
        clear HA
        simp only [sha_Equal.l0] at H
        by_cases c4 : x14_1 < (a0.size : Int)
        · rw [if_pos c4] at H
          have c4b0 : decide (x14_1 < (a0.size : Int)) = true := decide_eq_true c4
          clear c4
          by_cases c5 : 0 ≤ x14_1
          · rw [if_pos c5] at H
            have c5b0 : decide (0 ≤ x14_1) = true := decide_eq_true c5
            clear c5
            by_cases c6 : x14_1 < (a0.size : Int)
            · rw [if_pos c6] at H
              have c6b0 : decide (x14_1 < (a0.size : Int)) = true := decide_eq_true c6
              clear c6
              by_cases c8 : x14_1 < (a1.size : Int)
              · rw [if_pos c8] at H
                have c8b0 : decide (x14_1 < (a1.size : Int)) = true := decide_eq_true c8
                clear c8
                have H' := Aside0.mk H
                clear H
                have p7 : 0 ≤ (x14_1 : Int) := of_decide_eq_true (by first | (with_reducible assumption) | assumption)
                have q7 : x14_1 < (a0.size : Int) := of_decide_eq_true (by first | (with_reducible assumption) | assumption)
                have hx7 := bt_at a0 x14_1
                replace p7 := eq_true p7
                replace q7 := eq_true q7
                have p9 : 0 ≤ (x14_1 : Int) := of_decide_eq_true (by first | (with_reducible assumption) | assumption)
                have q9 : x14_1 < (a1.size : Int) := of_decide_eq_true (by first | (with_reducible assumption) | assumption)
                have hx9 := bt_at a1 x14_1
                replace p9 := eq_true p9
                replace q9 := eq_true q9
                go_wp2
                repeat (go_quiet (fail); try go_wp2)
                go_roundg k1
                case measure => have := HK1.out; omega
                case rel => exact ⟨(Go.bits .or .u8 x5_1 (Go.bits .xor .u8 (bt a0 x14_1) (bt a1 x14_1))), (wrap64 (x14_1 + 1)), (by first | rfl | (simp; done) | (simp [*]; done)), (by first | rfl | (simp; done) | (simp [*]; done)), H', ⟨by have := HK1.out; omega⟩, by repeat (first | exact Drawn0.refl _ | apply Drawn0.step)⟩
              · rw [if_neg c8] at H
                exact absurd H (by simp)
            · rw [if_neg c6] at H
              exact absurd H (by simp)
          · rw [if_neg c5] at H
            exact absurd H (by simp)
        · rw [if_neg c4] at H
          have c4b0 : decide (x14_1 < (a0.size : Int)) = false := decide_eq_false c4
          clear c4
          obtain rfl := Option.some.inj H
          go_wp2
          repeat (go_quiet (fail); try go_wp2)
          go_ret
          exact ⟨by first | rfl | (simp; done) | (simp [*]; done), by repeat (first | exact Drawn0.refl _ | apply Drawn0.step)⟩
  · rw [if_neg c3] at H
    have c3b0 : ((a0.size : Int) == (a1.size : Int)) = false := beq_eq_false_iff_ne.mpr c3
    have c3b1 : ((a0.size : Int) != (a1.size : Int)) = true := bne_iff_ne.mpr c3
    have c3b2 : (a0.size == a1.size) = false := by first | simpa using c3 | (simp at c3 ⊢; omega)
    obtain rfl := Option.some.inj H
    go_enter Tryd.func24, Tryd.ntmps24
    go_wp2
    repeat (go_quiet (fail); try go_wp2)
    go_ret
    exact ⟨by first | rfl | (simp; done) | (simp [*]; done), by repeat (first | exact Drawn0.refl _ | apply Drawn0.step)⟩

-- NOT PRINTED: function 7 (hopperlaw24_ShaTexts)

end Go.Proofs.YtdnmllodefbekaaDoor.PShaTexts
namespace Go.Proofs.YtdnmllodefbekaaDoor.Sha
open Go.RowKit Go.Lib Go.Proofs.YtdnmllodefbekaaDoorW.PrintWords Go.Proofs.YtdnmllodefbekaaDoorW.PrintLast Go.Proofs.YtdnmllodefbekaaDoorW.PrintMore
set_option linter.unusedVariables false
set_option linter.unusedSimpArgs false
theorem or8 (x y : Int) (hx : 0 ≤ x ∧ x < 256) (hy : 0 ≤ y ∧ y < 256) : (bits .or .u8 x y = 0 ↔ x = 0 ∧ y = 0) ∧ 0 ≤ bits .or .u8 x y ∧ bits .or .u8 x y < 256 := by
  obtain ⟨a, rfl⟩ := Int.eq_ofNat_of_zero_le hx.1
  obtain ⟨b, rfl⟩ := Int.eq_ofNat_of_zero_le hy.1
  have e : bits .or .u8 (a : Int) (b : Int) = ((BitVec.ofNat 8 a ||| BitVec.ofNat 8 b).toNat : Int) := by
    unfold bits
    simp only [IntKind.wrap_u8, BitVec.ofInt_natCast]
    show ((BitVec.ofNat 8 a ||| BitVec.ofNat 8 b).toNat : Int) % 256 = _
    have := (BitVec.ofNat 8 a ||| BitVec.ofNat 8 b).isLt
    omega
  have hl := (BitVec.ofNat 8 a ||| BitVec.ofNat 8 b).isLt
  refine ⟨?_, by omega, by omega⟩
  rw [e, show ((BitVec.ofNat 8 a ||| BitVec.ofNat 8 b).toNat : Int) = 0 ↔ (BitVec.ofNat 8 a ||| BitVec.ofNat 8 b) = 0#8 from ⟨fun h => BitVec.eq_of_toNat_eq (by simpa using h), fun h => by rw [h]; rfl⟩, BitVec.or_eq_zero_iff]
  constructor
  · rintro ⟨h1, h2⟩
    have h1 := congrArg BitVec.toNat h1
    have h2 := congrArg BitVec.toNat h2
    simp at h1 h2
    omega
  · rintro ⟨h1, h2⟩
    have h1 : a = 0 := by omega
    have h2 : b = 0 := by omega
    subst h1; subst h2
    exact ⟨rfl, rfl⟩
theorem xor8 (x y : Int) (hx : 0 ≤ x ∧ x < 256) (hy : 0 ≤ y ∧ y < 256) : (bits .xor .u8 x y = 0 ↔ x = y) ∧ 0 ≤ bits .xor .u8 x y ∧ bits .xor .u8 x y < 256 := by
  obtain ⟨a, rfl⟩ := Int.eq_ofNat_of_zero_le hx.1
  obtain ⟨b, rfl⟩ := Int.eq_ofNat_of_zero_le hy.1
  have e : bits .xor .u8 (a : Int) (b : Int) = ((BitVec.ofNat 8 a ^^^ BitVec.ofNat 8 b).toNat : Int) := by
    unfold bits
    simp only [IntKind.wrap_u8, BitVec.ofInt_natCast]
    show ((BitVec.ofNat 8 a ^^^ BitVec.ofNat 8 b).toNat : Int) % 256 = _
    have := (BitVec.ofNat 8 a ^^^ BitVec.ofNat 8 b).isLt
    omega
  have hl := (BitVec.ofNat 8 a ^^^ BitVec.ofNat 8 b).isLt
  refine ⟨?_, by omega, by omega⟩
  rw [e, show ((BitVec.ofNat 8 a ^^^ BitVec.ofNat 8 b).toNat : Int) = 0 ↔ (BitVec.ofNat 8 a ^^^ BitVec.ofNat 8 b) = 0#8 from ⟨fun h => BitVec.eq_of_toNat_eq (by simpa using h), fun h => by rw [h]; rfl⟩, BitVec.xor_eq_zero_iff]
  constructor
  · intro h1
    have h1 := congrArg BitVec.toNat h1
    simp at h1
    omega
  · intro h1
    rw [show a = b by omega]
theorem eq_l0 (a b : ByteArray) (hab : a.size = b.size) (hs : a.size ≤ 140737488351232) : ∀ (m p : Nat) (acc : Int), p ≤ a.size → a.size < p + m + 1 → 0 ≤ acc ∧ acc < 256 →
    PShaTexts.sha_Equal.l0 (m + 1) a b acc (a.size : Int) (p : Int) = some (decide (acc = 0 ∧ (bytesOf a).drop p = (bytesOf b).drop p))
  | m, p, acc, h1, h2, h3 => by
    rw [PShaTexts.sha_Equal.l0]
    by_cases q : p < a.size
    · obtain ⟨m1, rfl⟩ : ∃ m1, m = m1 + 1 := ⟨m - 1, by omega⟩
      have hw : wrap64 ((p : Int) + 1) = ((p + 1 : Nat) : Int) := by unfold wrap64; omega
      have b1 := bt_range a (p : Nat)
      have b2 := bt_range b (p : Nat)
      have hx := xor8 (bt a (p : Nat)) (bt b (p : Nat)) ⟨b1.1, by omega⟩ ⟨b2.1, by omega⟩
      have ho := or8 acc _ h3 hx.2
      have ha : p < (bytesOf a).length := by rw [bytesOf_length]; omega
      have hb : p < (bytesOf b).length := by rw [bytesOf_length]; omega
      have ra := rd_bytesOf a p
      have rb := rd_bytesOf b p
      rw [if_pos (by omega), if_pos (by omega), if_pos (by omega), if_pos (by omega), hw, eq_l0 a b hab hs m1 (p + 1) _ (by omega) (by omega) ho.2]
      congr 1
      rw [decide_eq_decide, ho.1, hx.1, List.drop_eq_getElem_cons ha, List.drop_eq_getElem_cons hb, List.cons.injEq, and_assoc]
      have ea : (bytesOf a)[p] = bt a (p : Nat) := by rw [← ra]; simp [rd, List.getD_eq_getElem?_getD, ha]
      have eb : (bytesOf b)[p] = bt b (p : Nat) := by rw [← rb]; simp [rd, List.getD_eq_getElem?_getD, hb]
      rw [ea, eb]
    · rw [if_neg (by omega), List.drop_eq_nil_of_le (by rw [bytesOf_length]; omega), List.drop_eq_nil_of_le (by rw [bytesOf_length]; omega)]
      by_cases h0 : acc = 0 <;> simp [h0]
theorem equal_f (a b : ByteArray) (hs : a.size ≤ 140737488351232) : PShaTexts.sha_Equal.f (a.size + 1) a b = some (decide (a = b)) := by
  unfold PShaTexts.sha_Equal.f
  by_cases q : a.size = b.size
  · rw [if_pos (by omega)]
    have := eq_l0 a b q hs a.size 0 0 (Nat.zero_le _) (by omega) (by omega)
    rw [show ((0 : Nat) : Int) = 0 from rfl] at this
    rw [this]
    congr 1
    rw [decide_eq_decide]
    constructor
    · rintro ⟨-, h⟩
      rw [List.drop_zero, List.drop_zero] at h
      rw [← strOfNums_bytesOf a, h, strOfNums_bytesOf]
    · rintro rfl; exact ⟨rfl, rfl⟩
  · rw [if_neg (by omega)]
    congr 1
    symm
    rw [decide_eq_false_iff_not]
    rintro rfl; exact q rfl
theorem equal_walk (a b : ByteArray) (w : World) (hs : a.size ≤ 140737488351232) : Calls Tryd.prog 24 #[.string a, .string b] w fun e w' => e = .returned (.bool (decide (a = b))) ∧ Drawn0 w w' :=
  PShaTexts.sha_Equal.calls (a.size + 1) a b _ w (equal_f a b hs)
end Go.Proofs.YtdnmllodefbekaaDoor.Sha
end
