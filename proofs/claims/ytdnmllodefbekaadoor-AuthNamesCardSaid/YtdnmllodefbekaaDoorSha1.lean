import Derived.Test.YtdnmllodefbekaaDoorSha0
import Derived.Laws.CopyOwn
import Derived.BigQuiet
namespace Go.Proofs.YtdnmllodefbekaaDoor.Sha
open Go.RowKit Go.Proofs.YtdnmllodefbekaaDoorW.PrintWords Go.Proofs.YtdnmllodefbekaaDoorW.PrintLast Go.Proofs.YtdnmllodefbekaaDoorW.PrintMore
set_option linter.unusedVariables false
set_option linter.unusedSimpArgs false
def KS : List Int := [1116352408, 1899447441, 3049323471, 3921009573, 961987163, 1508970993, 2453635748, 2870763221, 3624381080, 310598401, 607225278, 1426881987, 1925078388, 2162078206, 2614888103, 3248222580, 3835390401, 4022224774, 264347078, 604807628, 770255983, 1249150122, 1555081692, 1996064986, 2554220882, 2821834349, 2952996808, 3210313671, 3336571891, 3584528711, 113926993, 338241895, 666307205, 773529912, 1294757372, 1396182291, 1695183700, 1986661051, 2177026350, 2456956037, 2730485921, 2820302411, 3259730800, 3345764771, 3516065817, 3600352804, 4094571909, 275423344, 430227734, 506948616, 659060556, 883997877, 958139571, 1322822218, 1537002063, 1747873779, 1955562222, 2024104815, 2227730452, 2361852424, 2428436474, 2756734187, 3204031479, 3329325298]
def HS : List Int := [1779033703, 3144134277, 1013904242, 2773480762, 1359893119, 2600822924, 528734635, 1541459225]
/-- Four bytes as a word, the highest first. -/
def be4 (a b c d : Int) : Int := Go.bits .or .u32 (Go.bits .or .u32 (Go.bits .or .u32 ((a % 4294967296 * 16777216) % 4294967296) ((b % 4294967296 * 65536) % 4294967296)) ((c % 4294967296 * 256) % 4294967296)) (d % 4294967296)
/-- The next word of the schedule. -/
def nxt (ws : List Int) (t : Nat) : Int := (((smaW (rd ws (t - 2 : Nat)) + rd ws (t - 7 : Nat)) % 4294967296 + smaV (rd ws (t - 15 : Nat))) % 4294967296 + rd ws (t - 16 : Nat)) % 4294967296
def sched (bs : List Int) : Nat → List Int
  | 0 => []
  | t + 1 => sched bs t ++ [if t < 16 then be4 (rd bs (4 * t : Nat)) (rd bs (4 * t + 1 : Nat)) (rd bs (4 * t + 2 : Nat)) (rd bs (4 * t + 3 : Nat)) else nxt (sched bs t) t]
def ch (e f g : Int) : Int := Go.bits .xor .u32 (Go.bits .and .u32 e f) (Go.bits .and .u32 (Go.bits .xor .u32 IntKind.u32.max e) g)
def mj (a b c : Int) : Int := Go.bits .xor .u32 (Go.bits .xor .u32 (Go.bits .and .u32 a b) (Go.bits .and .u32 a c)) (Go.bits .and .u32 b c)
def tx (e f g h k w : Int) : Int := (h + bigE e + ch e f g + k + w) % 4294967296
def ty (a b c : Int) : Int := (bigA a + mj a b c) % 4294967296
def rnd (k w : Int) : List Int → List Int
  | [a, b, c, d, e, f, g, h] => [(tx e f g h k w + ty a b c) % 4294967296, a, b, c, (d + tx e f g h k w) % 4294967296, e, f, g]
  | l => l
def rounds (ws st : List Int) : Nat → List Int
  | 0 => st
  | t + 1 => rnd (rd KS t) (rd ws t) (rounds ws st t)
def blk (st bs : List Int) : List Int := List.zipWith (fun s v => (s + v) % 4294967296) st (rounds (sched bs 64) st 64)
theorem sched_len (bs : List Int) (t : Nat) : (sched bs t).length = t := by
  induction t with
  | zero => rfl
  | succ t ih => simp [sched, ih]
theorem rnd_len (k w : Int) (l : List Int) (h : l.length = 8) : (rnd k w l).length = 8 := by
  match l, h with
  | [a, b, c, d, e, f, g, h], _ => rfl
theorem rounds_len (ws st : List Int) (h : st.length = 8) (t : Nat) : (rounds ws st t).length = 8 := by
  induction t with
  | zero => exact h
  | succ t ih => exact rnd_len _ _ _ ih
theorem blk_len (st bs : List Int) (h : st.length = 8) : (blk st bs).length = 8 := by simp [blk, h, rounds_len _ _ h]
theorem eight (l : List Int) (h : l.length = 8) : ∃ a b c d e f g i, l = [a, b, c, d, e, f, g, i] := by
  match l, h with
  | [a, b, c, d, e, f, g, i], _ => exact ⟨a, b, c, d, e, f, g, i, rfl⟩
/-! ### memory -/
/-- A hash at block g: the state's eight words, the slice of what is left, the count. -/
def HCells (st : List Int) (rv : Value) (lg : Int) : Array Value := (nums .u32 st ++ [rv, .int .u64 lg]).toArray
def ZC (n : Nat) (xs : List Int) : Array Value := (nums .u32 (xs ++ List.replicate (n - xs.length) 0)).toArray
theorem step_copy_mine {P : Program} {ops : Array Oper} {o : Oper} {a : Act} {w : World} {K : Act → World → Prop} {Q : Exit → Act → World → Prop} {E : Prop} (hgd : o.guard = none) (d s : Operand) (dT sT : TypeId)
    (ho : o.op = .call { callee := .builtin .copy, args := #[d, s], argTypes := #[dT, sT] }) (elem : TypeId) (hu : P.underlying dT = some (.slice elem)) (hsz : (P.info? elem).map (·.size) = some 1)
    (dp sp : Option Addr) (dLen dCap sLen sCap : Nat) (hd : a.eval d = .slice dp dLen dCap) (hs : a.eval s = .slice sp sLen sCap)
    (g off : Nat) (cur : List Value) (t : TypeId) (hg : w.heap[g]? = some (.cells cur.toArray t (0, 0))) (cs : List Value) (hn : cs.length = Nat.min sLen dLen)
    (hpos : 0 < cs.length → dp = some ⟨g, off, none⟩ ∧ ∃ ad, sp = some ad ∧ ∀ j v, cs[j]? = some v → w.cell? (ad.add j) = some v)
    (hfit : off + cs.length ≤ cur.length) (h1 : ∀ v ∈ cs, v.oneCell' = true)
    (h : ∀ w', w'.heap[g]? = some (.cells (cur.take off ++ (cs ++ cur.drop (off + cs.length))).toArray t (0, 0)) → w.grownBy w' (some g) → K (a.put o.dst (goInt cs.length)) w') :
    if Region.wanted o (yielded ops a.tmps) = true then Oper.wp P o a w K Q else E := by
  have hw : Region.wanted o (yielded ops a.tmps) = true := by simp [Region.wanted, hgd]
  rw [if_pos hw]
  by_cases h0 : cs.length = 0
  · obtain rfl : cs = [] := List.eq_nil_of_length_eq_zero h0
    have hrun := run_copy_none (P := P) w dT sT o.type elem dp sp dLen dCap sLen sCap hu hsz (by simpa using hn.symm)
    unfold Oper.wp
    simp [execOp, ho, resolve, invoke, builtin, hd, hs, hrun, Result.andThen]
    exact h w (show _ = _ by simpa using hg) ⟨rfl, rfl, rfl, Nat.le_refl _, fun _ _ _ => rfl⟩
  · obtain ⟨rfl, ad, rfl, hsrc⟩ := hpos (by omega)
    have hrun := run_copy_row (P := P) w dT sT o.type elem g off dLen dCap ad sLen sCap cur.toArray t cs hu hsz hg hn hsrc (by simpa using hfit) h1
    unfold Oper.wp
    simp [execOp, ho, resolve, invoke, builtin, hd, hs, hrun, Result.andThen]
    refine h _ (show _ = _ by simpa using setRow_heap w g _ _ t _ hg) ⟨rfl, rfl, rfl, by simp [World.setRow], fun k _ hk => setRow_other w g k _ fun e => hk (by rw [e])⟩
/-- What the package's variables hold: they lie at blocks 0 and 1. -/
structure Laid (W : World) : Prop where
  b : ∀ i : Nat, i < 8 → W.cell? ⟨0, i, none⟩ = some (.int .u32 (rd HS i))
  c : ∀ i : Nat, i < 64 → W.cell? ⟨1, i, none⟩ = some (.int .u32 (rd KS i))
theorem Laid.step {W W1 : World} {B : Nat} (h : Laid W) (hb : Below B W W1) (hB : 2 ≤ B) : Laid W1 :=
  ⟨fun i hi => (hb.cell (p := ⟨0, i, none⟩) (show 0 < B by omega)).trans (h.b i hi), fun i hi => (hb.cell (p := ⟨1, i, none⟩) (show 1 < B by omega)).trans (h.c i hi)⟩
theorem nums_cell (k : IntKind) (xs : List Int) (t : Nat) (h : t < xs.length) : (nums k xs).toArray[t]? = some (.int k (rd xs t)) := by
  simp [nums, rd, List.getD_eq_getElem?_getD, h]
theorem cell_nums {W : World} {g t : Nat} {xs : List Int} {k : IntKind} (h : W.heap[g]? = some (.cells (nums k xs).toArray t (0, 0))) (i : Nat) (hi : i < xs.length) : W.cell? ⟨g, i, none⟩ = some (.int k (rd xs i)) :=
  (blk_cell h i).trans (nums_cell k xs i hi)
end Go.Proofs.YtdnmllodefbekaaDoor.Sha
