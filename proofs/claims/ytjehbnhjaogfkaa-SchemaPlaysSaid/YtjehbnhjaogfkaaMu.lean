/- Mu: the texts Sc80, Sc81, Sc82, one behind the other. -/
import Derived.Test.YtjehbnhjaogfkaaSc20
import Derived.Test.YtjehbnhjaogfkaaMs
import Derived.Test.YtjehbnhjaogfkaaMr
import Derived.Test.YtjehbnhjaogfkaaMt
import Derived.Test.YtjehbnhjaogfkaaWTab
section
namespace Go.Proofs.Ytjehbnhjaogfkaa.Sc
open Go.RowKit Go.Deep Go.ChangeShapes Go.WideShapes Go.Proofs.YtjehbnhjaogfkaaW.PrintWords
set_option linter.unusedVariables false
set_option linter.unusedSimpArgs false
/-- A call of the script. -/
structure SAct where
  kd : Int
  nm : ByteArray
  t : Tb
def kact : Kd SAct := Kd.iso (Kd.pair (Kd.int .i64) (Kd.pair Kd.string ktb)) fun x => (x.kd, x.nm, x.t)
theorem kact_K {W : World} {x : SAct} {cs : List Value} (h : kact.K W x cs) : ∃ A c B e, cs = [.int .i64 x.kd, .string x.nm, .string x.t.nm, .slice A x.t.cols.length c, .int .i64 x.t.key, .slice B x.t.ixs.length e] ∧ x.t.cols.length ≤ c ∧ kcol.C W A x.t.cols.length x.t.cols ∧ x.t.ixs.length ≤ e ∧ kix.C W B x.t.ixs.length x.t.ixs := by
  obtain ⟨_, _, rfl, rfl, _, _, rfl, rfl, hK⟩ := h
  obtain ⟨A, c, B, e, rfl, h1, h2, h3, h4⟩ := ktb_K.1 hK
  exact ⟨A, c, B, e, rfl, h1, h2, h3, h4⟩
theorem act_at {W : World} {A : Option Addr} {n : Nat} {l : List SAct} (h : kact.C W A n l) (i : Nat) (hi : i < l.length) : ∃ ad B cb D cd, A = some ad ∧ W.cell? (ad.add (i * 6)) = some (.int .i64 (l[i]).kd) ∧ W.cell? (ad.add (i * 6 + 1)) = some (.string (l[i]).nm) ∧ W.cell? (ad.add (i * 6 + 2)) = some (.string (l[i]).t.nm) ∧ W.cell? (ad.add (i * 6 + 3)) = some (.slice B (l[i]).t.cols.length cb) ∧ W.cell? (ad.add (i * 6 + 4)) = some (.int .i64 (l[i]).t.key) ∧ W.cell? (ad.add (i * 6 + 5)) = some (.slice D (l[i]).t.ixs.length cd) ∧
    (l[i]).t.cols.length ≤ cb ∧ kcol.C W B (l[i]).t.cols.length (l[i]).t.cols ∧ (l[i]).t.ixs.length ≤ cd ∧ kix.C W D (l[i]).t.ixs.length (l[i]).t.ixs := by
  obtain ⟨ad, e, hc⟩ := h.2.2 (by have := h.1; omega)
  obtain ⟨c, hl, hK, hcell⟩ := hc i _ (List.getElem?_eq_getElem hi)
  obtain ⟨B, cb, D, cd, rfl, h1, h2, h3, h4⟩ := kact_K hK
  exact ⟨ad, B, cb, D, cd, e, hcell 0 _ rfl, hcell 1 _ rfl, hcell 2 _ rfl, hcell 3 _ rfl, hcell 4 _ rfl, hcell 5 _ rfl, h1, h2, h3, h4⟩
/-- What an act is of. -/
structure AIn (a : SAct) : Prop where
  kd : inR a.kd
  nm : a.nm.size ≤ maxLen
  t : TSz a.t
  c1 : a.t.cols.length < 5864062014805
  c2 : a.t.ixs.length < 2932031007402
  c3 : ∀ x ∈ a.t.ixs, x.cols.length < 17592186044416
section
variable {H : Type} {enc : TypeId × Value → H} {W : World} {held : Bool}
theorem sl_len {t e : TypeId} (ht : Try.prog.underlying t = some (.slice e)) {fuel : Nat} {A : Option Addr} {n c : Nat} {x : DataW H × List MemPlace} (h : DataW.trod enc Try.prog W 0 (fun _ => true) held fuel t [.slice A n c] = some x) (hw : ∀ b ∈ DataW.weights Try.prog t x.1, b ≤ reachBytes) : n * Try.prog.bytesOf e ≤ reachBytes := by
  rcases open_slice ht h with ⟨hcs, _⟩ | ⟨ad, n', cap, m, n2, D, Pl, hcs, _, hl, hm, hmm, hx, hi⟩
  · simp only [List.cons.injEq, and_true] at hcs
    injection hcs with _ h2 _
    subst h2
    generalize reachBytes = R
    exact Nat.le_trans (Nat.le_of_eq (Nat.zero_mul _)) (Nat.zero_le R)
  · simp only [List.cons.injEq, and_true] at hcs
    have h2 : n = n' := (Value.slice.inj hcs).2.1
    subst h2
    have hxd : x.1 = .slice ((List.range n).map D) ((List.range (m - n)).map fun j => D (n + j)) := by rw [hx]
    have h1 := hw ((n + (m - n)) * Try.prog.bytesOf e) (by
      rw [hxd]
      simp [DataW.weights, ht])
    exact Nat.le_trans (Nat.mul_le_mul_right _ (by omega)) h1
theorem ix_elem2 {fuel : Nat} {cs : List Value} {y : DataW H × List MemPlace} (h : DataW.trod enc Try.prog W 0 (fun _ => true) held fuel 67 cs = some y) (hw : ∀ b ∈ DataW.weights Try.prog 67 y.1, b ≤ reachBytes) : ∃ a : Ix, kix.K W a cs ∧ (a.nm.size ≤ maxLen ∧ a.cols.length ≤ 140737488355328 ∧ a.cols.length < 17592186044416) := by
  obtain ⟨xs, n, _, hx, hl, hxl, hg⟩ := DataW.trod_struct Try.underlying67 h
  rw [k67] at hl
  obtain ⟨c0, c1, c2, rfl⟩ := three hl
  obtain ⟨y0, y1, y2, rfl⟩ := three hxl
  have t0 : DataW.trod enc Try.prog W 0 (fun _ => true) held n 9 [c0] = some y0 := by simpa [k9] using hg 0 _ rfl
  have t1 : DataW.trod enc Try.prog W 0 (fun _ => true) held n 65 [c1] = some y1 := by simpa [k65] using hg 1 _ rfl
  have t2 : DataW.trod enc Try.prog W 0 (fun _ => true) held n 4 [c2] = some y2 := by simpa [k4] using hg 2 _ rfl
  have hw2 : ∀ b ∈ DataW.weightsEach Try.prog [9, 65, 4] [y0.1, y1.1, y2.1], b ≤ reachBytes := fun b hb => hw b (by
    rw [hx]
    simp only [DataW.weights, Try.underlying67]
    exact hb)
  obtain ⟨s, e0, _, w0⟩ := DataW.trod_string Try.underlying9 t0
  obtain ⟨A, l, cap, e1, hC, hcap, hG, hlen⟩ := sl_open (Kd.int .i64) inR Try.underlying65 k3 b3 (fun h _ _ => int_elem h) t1 (weights_at hw2 (j := 1) rfl rfl)
  obtain ⟨q, e2, _⟩ := DataW.trod_bool Try.underlying4 t2
  simp only [List.cons.injEq, and_true] at e0 e2
  subst e0 e1 e2
  have hb := sl_len Try.underlying65 t1 (weights_at hw2 (j := 1) rfl rfl)
  rw [show Try.prog.bytesOf 3 = 8 from by kernel_rfl] at hb
  have hr : reachBytes ≤ 140737488351232 := by decide
  exact ⟨⟨s, l, q⟩, kix_K.2 ⟨A, cap, rfl, hcap, hC⟩, w0, hlen, by show l.length < _; omega⟩
theorem tb_elem2 {fuel : Nat} {cs : List Value} {y : DataW H × List MemPlace} (h : DataW.trod enc Try.prog W 0 (fun _ => true) held fuel 30 cs = some y) (hw : ∀ b ∈ DataW.weights Try.prog 30 y.1, b ≤ reachBytes) : ∃ a : Tb, ktb.K W a cs ∧ TSz a ∧ a.cols.length < 5864062014805 ∧ a.ixs.length < 2932031007402 ∧ ∀ x ∈ a.ixs, x.cols.length < 17592186044416 := by
  obtain ⟨xs, n, _, hx, hl, hxl, hg⟩ := DataW.trod_struct Try.underlying30 h
  rw [k30] at hl
  obtain ⟨c0, c1, c2, c3, rfl⟩ := four hl
  obtain ⟨y0, y1, y2, y3, rfl⟩ := four hxl
  have t0 : DataW.trod enc Try.prog W 0 (fun _ => true) held n 9 [c0] = some y0 := by simpa [k9] using hg 0 _ rfl
  have t1 : DataW.trod enc Try.prog W 0 (fun _ => true) held n 27 [c1] = some y1 := by simpa [k27] using hg 1 _ rfl
  have t2 : DataW.trod enc Try.prog W 0 (fun _ => true) held n 3 [c2] = some y2 := by simpa [k3] using hg 2 _ rfl
  have t3 : DataW.trod enc Try.prog W 0 (fun _ => true) held n 28 [c3] = some y3 := by simpa [k28] using hg 3 _ rfl
  have hw2 : ∀ b ∈ DataW.weightsEach Try.prog [9, 27, 3, 28] [y0.1, y1.1, y2.1, y3.1], b ≤ reachBytes := fun b hb => hw b (by
    rw [hx]
    simp only [DataW.weights, Try.underlying30]
    exact hb)
  obtain ⟨s, e0, _, w0⟩ := DataW.trod_string Try.underlying9 t0
  obtain ⟨A, l, ca, e1, hC, hca, hG, hlen⟩ := sl_open kcol (fun a => a.nm.size ≤ maxLen ∧ inR a.kd) Try.underlying27 (by kernel_rfl) b32 (fun h _ _ => col_elem h) t1 (weights_at hw2 (j := 1) rfl rfl)
  obtain ⟨k, e2, w2⟩ := int_elem t2
  obtain ⟨B, l3, cb, e3, hC3, hcb, hG3, hlen3⟩ := sl_open kix (fun a => a.nm.size ≤ maxLen ∧ a.cols.length ≤ 140737488355328 ∧ a.cols.length < 17592186044416) Try.underlying28 k67 b67 (fun h _ hw => ix_elem2 h hw) t3 (weights_at hw2 (j := 3) rfl rfl)
  have e2 : [c2] = [.int .i64 k] := e2
  simp only [List.cons.injEq, and_true] at e0 e2
  subst e0 e1 e2 e3
  have hb := sl_len Try.underlying27 t1 (weights_at hw2 (j := 1) rfl rfl)
  rw [show Try.prog.bytesOf 32 = 24 from by kernel_rfl] at hb
  have hb3 := sl_len Try.underlying28 t3 (weights_at hw2 (j := 3) rfl rfl)
  rw [show Try.prog.bytesOf 67 = 48 from by kernel_rfl] at hb3
  have hr : reachBytes ≤ 140737488351232 := by decide
  exact ⟨⟨s, l, k, l3⟩, ktb_K.2 ⟨A, ca, B, cb, rfl, hca, hC, hcb, hC3⟩, ⟨w0, fun x hx => (hG x hx).1, fun x hx => (hG3 x hx).1, hlen, hlen3, fun x hx => (hG3 x hx).2.1⟩, by show l.length < _; omega, by show l3.length < _; omega, fun x hx => (hG3 x hx).2.2⟩
theorem k57 : Try.prog.cellsOf 57 = 6 := by kernel_rfl
theorem b57 : 0 < Try.prog.bytesOf 57 := by rw [show Try.prog.bytesOf 57 = 96 from by kernel_rfl]; decide
theorem six {α : Type} {l : List α} (h : l.length = 6) : ∃ a b c d e f, l = [a, b, c, d, e, f] := by
  match l, h with
  | [a, b, c, d, e, f], _ => exact ⟨a, b, c, d, e, f, rfl⟩
theorem act_elem {fuel : Nat} {cs : List Value} {y : DataW H × List MemPlace} (h : DataW.trod enc Try.prog W 0 (fun _ => true) held fuel 57 cs = some y) (hw : ∀ b ∈ DataW.weights Try.prog 57 y.1, b ≤ reachBytes) : ∃ a : SAct, kact.K W a cs ∧ AIn a := by
  obtain ⟨xs, n, _, hx, hl, hxl, hg⟩ := DataW.trod_struct Try.underlying57 h
  rw [k57] at hl
  obtain ⟨c0, c1, c2, c3, c4, c5, rfl⟩ := six hl
  obtain ⟨y0, y1, y2, rfl⟩ := three hxl
  have t0 : DataW.trod enc Try.prog W 0 (fun _ => true) held n 3 [c0] = some y0 := by simpa [k3] using hg 0 _ rfl
  have t1 : DataW.trod enc Try.prog W 0 (fun _ => true) held n 9 [c1] = some y1 := by simpa [k3, k9] using hg 1 _ rfl
  have t2 : DataW.trod enc Try.prog W 0 (fun _ => true) held n 30 [c2, c3, c4, c5] = some y2 := by simpa [k3, k9, k30] using hg 2 _ rfl
  have hw2 : ∀ b ∈ DataW.weightsEach Try.prog [3, 9, 30] [y0.1, y1.1, y2.1], b ≤ reachBytes := fun b hb => hw b (by
    rw [hx]
    simp only [DataW.weights, Try.underlying57]
    exact hb)
  obtain ⟨k, e0, w0⟩ := int_elem t0
  obtain ⟨s, e1, _, w1⟩ := DataW.trod_string Try.underlying9 t1
  obtain ⟨t, hK, q1, q2, q3, q4⟩ := tb_elem2 t2 (weights_at hw2 (j := 2) rfl rfl)
  have e0 : [c0] = [.int .i64 k] := e0
  simp only [List.cons.injEq, and_true] at e0 e1
  subst e0 e1
  exact ⟨⟨k, s, t⟩, ⟨[_], [_, c2, c3, c4, c5], rfl, rfl, [_], [c2, c3, c4, c5], rfl, rfl, hK⟩, w0, w1, q1, q2, q3, q4⟩
set_option maxRecDepth 100000 in
theorem acts_open {base : Nat} {v : Value} {d : DataW H} {ps : List MemPlace} {ts : List TypeId} {ds : List (DataW H)} {j : Nat}
    (hsz : (DataW.weightsEach Try.prog ts ds).all (· ≤ reachBytes) = true) (htj : ts[j]? = some 55) (hdj : ds[j]? = some d)
    (hv : Value.okWide Try.prog W .any base 55 v) (h : DataW.Trod enc Try.prog W 0 (fun _ => true) true 55 v d ps) :
    ∃ (A : Option Addr) (l : List SAct) (c : Nat), v = .slice A l.length c ∧ (kact.C W A l.length l ∧ ∀ a ∈ l, AIn a) ∧ l.length ≤ c := by
  obtain ⟨A, n, c, rfl⟩ := okWide_slice Try.underlying55 hv
  obtain ⟨fuel, hf⟩ := h
  have hw : ∀ b ∈ DataW.weights Try.prog 55 d, b ≤ reachBytes := fun b hb => of_decide_eq_true (List.all_eq_true.1 hsz _ (DataW.weights_mem_each htj hdj b hb))
  have hf : DataW.trod enc Try.prog W 0 (fun _ => true) true fuel 55 [.slice A n c] = some (d, ps) := hf
  obtain ⟨A', l, cap, e, hC, hcap, hG, -⟩ := sl_open kact AIn Try.underlying55 k57 b57 (fun h _ hw => act_elem h hw) hf hw
  exact ⟨A', l, cap, e, ⟨hC, hG⟩, hcap⟩
end
end Go.Proofs.Ytjehbnhjaogfkaa.Sc
end

section
namespace Go.Proofs.Ytjehbnhjaogfkaa.Sc
open Go.RowKit Go.Lib Go.Maps Go.WideAt Go.WideShapes Go.Proofs.YtjehbnhjaogfkaaW.PrintWords Go.Proofs.YtjehbnhjaogfkaaW.PrintLast Go.Proofs.YtjehbnhjaogfkaaW.PrintMore
open Go.Proofs.Ytjehbnhjaogfkaa
set_option linter.unusedVariables false
set_option linter.unusedSimpArgs false
theorem among_walk (x : Int) (W : World) : Calls Try.prog 20 #[.int .i64 x, .int .i64 4] W fun e W' => (∃ k : Int, e = .returned (.int .i64 k) ∧ (k = 0 ∨ k = 1 ∨ k = 2 ∨ k = 3)) ∧ W = W' := by
  obtain ⟨y, hy⟩ : ∃ y, Int.tmod x 4 = y := ⟨_, rfl⟩
  have h1 : -4 < y ∧ y < 4 := by rw [← hy]; exact ⟨by have := Int.lt_tmod_of_pos x (show (0 : Int) < 4 by decide); omega, Int.tmod_lt_of_pos x (by decide)⟩
  have h2 : Int.tmod (y + 4) 4 = 0 ∨ Int.tmod (y + 4) 4 = 1 ∨ Int.tmod (y + 4) 4 = 2 ∨ Int.tmod (y + 4) 4 = 3 := by
    rw [Int.tmod_eq_emod_of_nonneg (by omega)]
    omega
  have HH := Aside0.mk h2
  have hw : wrap64 y = y := by unfold wrap64; omega
  have hw2 : wrap64 (y + 4) = y + 4 := by unfold wrap64; omega
  have hw3 : wrap64 (Int.tmod (y + 4) 4) = Int.tmod (y + 4) 4 := by unfold wrap64; omega
  clear h2
  go_enter Try.func20, Try.ntmps20
  go_wp2_with fail
  go_ret
  exact ⟨⟨(y + 4) % 4, rfl, by omega⟩, rfl⟩
/-! Both catalogues. -/
theorem RK.map {ok : Nat → Prop} {W W1 : World} {h b : Nat} {K : FM.T Tb} (k : RK ok W h K) (hf : Fr (Only b) W W1) (hb : ∀ cs t, W.heap[b]? ≠ some (.cells cs t (0, 0))) : RK ok W1 h K := by
  obtain ⟨v, h1, h2⟩ := k.row
  refine ⟨⟨v, (hf.block h (blk_lt h1) fun e => hb _ _ (e ▸ h1)).trans h1, Kd.R_mono (Kd.R_move (Kd.R_bound h2) fun x hx => hf.block x hx.2.2.1 fun e => ?_) fun x hx => hx.1⟩, k.st, k.nm, k.len, k.ck⟩
  obtain ⟨-, -, -, q, -, cells, hc⟩ := hx
  exact hb _ _ (e ▸ hc)
theorem IsCat.nocells {ok : Nat → Prop} {W : World} {g b : Nat} {M : CatM} (h : IsCat ok W g b M) : ∀ cs t, W.heap[b]? ≠ some (.cells cs t (0, 0)) := fun cs t e => by
  obtain ⟨es, cl, hbb⟩ := ownV_map h.own
  rw [hbb] at e
  cases e
theorem OwnTb.frTy {ok : Nat → Prop} {base : Nat} {W W1 : World} {v : Value} {t : Tb} {x : Nat} (h : OwnTb ok base W v t) (hf : Fr (Only x) W W1) (hx : ∀ q cells, (q = 32 ∨ q = 67 ∨ q = 3) → W.heap[x]? ≠ some (.cells cells q (0, 0))) : OwnTb ok base W1 v t :=
  h.move fun k _ hlt hc => hf.block k hlt fun e => by
    obtain ⟨q, cells, hq, hc⟩ := hc
    exact hx q cells hq (e ▸ hc)
structure PS (ok : Nat → Prop) (W w : World) (g b h : Nat) (M : CatM) (K : FM.T Tb) : Prop where
  cat : IsCat ok w g b M
  rk : RK ok w h K
  gb : W.heap.size ≤ b
  gh : W.heap.size ≤ h
  be : Below W.heap.size W w
theorem PS.below {ok : Nat → Prop} {W w w1 : World} {g b h : Nat} {M : CatM} {K : FM.T Tb} (p : PS ok W w g b h M K) (hb : Below w.heap.size w w1) : PS ok W w1 g b h M K :=
  ⟨p.cat.below hb, p.rk.below hb, p.gb, p.gh, Go.Proofs.Ytjehbnhjaogfkaa.Sc.step p.be hb⟩
theorem PS.mono {ok ok' : Nat → Prop} {W w : World} {g b h : Nat} {M : CatM} {K : FM.T Tb} (p : PS ok W w g b h M K) (hok : ∀ x, ok x → x < w.heap.size → ok' x) : PS ok' W w g b h M K :=
  ⟨p.cat.mono hok, p.rk.mono hok, p.gb, p.gh, p.be⟩
theorem PS.hcell {ok : Nat → Prop} {W w : World} {g b h : Nat} {M : CatM} {K : FM.T Tb} (p : PS ok W w g b h M K) : ∃ v, w.heap[h]? = some (.cells #[v] 50 (0, 0)) := by
  obtain ⟨v, h1, -⟩ := p.rk.row
  exact ⟨v, h1⟩
theorem PS.lts {ok : Nat → Prop} {W w : World} {g b h : Nat} {M : CatM} {K : FM.T Tb} (p : PS ok W w g b h M K) : g < w.heap.size ∧ b < w.heap.size ∧ h < w.heap.size := ⟨p.cat.lt.1, p.cat.lt.2, p.rk.lt⟩
theorem PS.one {ok ok' : Nat → Prop} {W w w1 : World} {g b h : Nat} {M M1 : CatM} {K : FM.T Tb} (p : PS ok W w g b h M K) (hc : IsCat ok' w1 g b M1) (hf : Fr (fun k => k = b) w w1) (hok : ∀ x, ok x → ok' x) : PS ok' W w1 g b h M1 K :=
  ⟨hc, (p.rk.map (b := b) hf p.cat.nocells).mono fun x hx _ => hok x hx, p.gb, p.gh, hf.below p.be fun k hk => by subst hk; exact p.gb⟩
theorem PS.two {ok ok' : Nat → Prop} {W w w1 : World} {g b h : Nat} {M : CatM} {K K1 : FM.T Tb} (p : PS ok W w g b h M K) (hr : RK ok' w1 h K1) (hf : Fr (Only h) w w1) (hok : ∀ x, ok x → ok' x) : PS ok' W w1 g b h M K1 := by
  obtain ⟨v, hv⟩ := p.hcell
  exact ⟨(p.cat.keepTy (S := Only h) (q0 := 50) hf (fun k hk => ⟨_, by unfold Only at hk; subst hk; exact hv⟩) (by decide)).mono fun x hx _ => hok x hx, hr, p.gb, p.gh, hf.below p.be fun k hk => by unfold Only at hk; subst hk; exact p.gh⟩
theorem PS.spoil {ok S : Nat → Prop} {W w w1 : World} {g b h a c : Nat} {M : CatM} {K : FM.T Tb} (p : PS ok W w g b h M K) (hf : Fr S w w1) (hS : ∀ x, S x → a ≤ x ∧ x < c) (hok : ∀ x, ok x → x < a ∨ c ≤ x) (hg : g < a) (hb : b < a) (hh : h < a) (hW : W.heap.size ≤ a) : PS ok W w1 g b h M K :=
  ⟨p.cat.fr hf (fun e => by have := hS g e; omega) (fun e => by have := hS b e; omega) (fun x hx e => by have := hS x e; have := hok x hx; omega), p.rk.fr hf (fun e => by have := hS h e; omega) (fun x hx e => by have := hS x e; have := hok x hx; omega), p.gb, p.gh, hf.below p.be fun k hk => by have := hS k hk; omega⟩
theorem crK_kOf (M : CatM) (t : Tb) : crK (kOf M) t = crE M t := by
  unfold crK crE
  rw [kOf_isSome, kOf_len]
theorem cr_post {ok : Nat → Prop} {W w' : World} {g b : Nat} {M : CatM} {t : Tb} {e : Ending} (h : CrPost ok W g b M t e w') : e = .returned (.int .i64 (crE M t)) ∧ Fr (fun k => k = b) W w' ∧ ∃ M', IsCat (fun k => ok k ∨ W.heap.size ≤ k) w' g b M' ∧ kOf M' = crN (kOf M) t := by
  obtain ⟨h1, h2, h3⟩ := h
  refine ⟨h1, h2, ?_⟩
  unfold crN
  rw [crK_kOf]
  by_cases hc : crE M t = 0
  · rw [if_pos hc] at h3 ⊢
    obtain ⟨v, h3⟩ := h3
    exact ⟨_, h3, kOf_put _ _ _ _⟩
  · rw [if_neg hc] at h3 ⊢
    exact ⟨M, h3.mono fun x hx _ => .inl hx, rfl⟩
/-- What Find tells, there or not. -/
def tf : Option Tb → Tb × Int
  | none => (⟨⟨#[]⟩, [], 0, []⟩, 141)
  | some t => (t, 0)
theorem own_zero (W : World) (base : Nat) : OwnTb (fun _ => True) base W zt (tf none).1 := ⟨.slice none 0 0, .slice none 0 0, rfl, Kd.R_nil _ _ _ _ _, Kd.R_nil _ _ _ _ _⟩
theorem find_u {W w' : World} {M : CatM} {k : FM.Key} {e : Ending} (h : FindPost W (FM.get M k) e w') : ∃ v, e = .returned (.tuple #[v, .int .i64 (tf (FM.get (kOf M) k)).2]) ∧ OwnTb (fun _ => True) W.heap.size w' v (tf (FM.get (kOf M) k)).1 := by
  rw [kOf_get]
  cases hg : FM.get M k with
  | none => rw [hg] at h; exact ⟨zt, h, own_zero _ _⟩
  | some p => rw [hg] at h; exact h
theorem rfind_u {W w' : World} {r : Option Tb} {e : Ending} (h : RFind W r e w') : ∃ v, e = .returned (.tuple #[v, .int .i64 (tf r).2]) ∧ OwnTb (fun _ => True) W.heap.size w' v (tf r).1 := by
  cases r with
  | none => exact ⟨zt, h, own_zero _ _⟩
  | some p => exact h
end Go.Proofs.Ytjehbnhjaogfkaa.Sc
end

section
namespace Go.Proofs.Ytjehbnhjaogfkaa.Sc
open Go.RowKit Go.Lib Go.Maps Go.WideAt Go.WideShapes Go.Proofs.YtjehbnhjaogfkaaW.PrintWords Go.Proofs.YtjehbnhjaogfkaaW.PrintLast Go.Proofs.YtjehbnhjaogfkaaW.PrintMore
open Go.Proofs.Ytjehbnhjaogfkaa
set_option linter.unusedVariables false
set_option linter.unusedSimpArgs false
def T6_21 : Bool × List (List Nat × List Nat) := (true, [([], []), ([], []), ([0, 1], [0, 1]), ([], []), ([], []), ([4], [4]), ([3, 5, 2], [3, 5]), ([2, 6], [2, 6]), ([7, 6], [7]), ([8], [8]), ([8], [8]), ([10, 8], [8, 10]), ([9, 11, 8, 8], [8, 9, 11]), ([12, 8], [8, 12]), ([8, 13], [8, 13])])
theorem t6_21 : Go.Proofs.YtjehbnhjaogfkaaW.PrintLast.rtab .any (opsOf Try.f6 21) = T6_21 := by kernel_rfl
theorem b6_21 : waitsOk T6_21.2 [0, 0, 3, 0, 0, 16, 56, 127, 255, 511, 511, 1535, 4095, 8191, 16383] = true := by kernel_rfl
def T6_25 : Bool × List (List Nat × List Nat) := (true, [([], []), ([], []), ([1], [1]), ([0, 2], [0, 2]), ([], []), ([], []), ([5], [5]), ([4, 6, 3], [4, 6]), ([3, 7], [3, 7])])
theorem t6_25 : Go.Proofs.YtjehbnhjaogfkaaW.PrintLast.rtab .any (opsOf Try.f6 25) = T6_25 := by kernel_rfl
theorem b6_25 : waitsOk T6_25.2 [0, 0, 2, 7, 0, 0, 32, 112, 255] = true := by kernel_rfl
theorem kOf_eq {M : CatM} (h : Named M) : kOf M = (tbs M).map fun t => (t.nm.data.toList, t) := by
  unfold kOf mapV tbs
  rw [List.map_map]
  refine List.map_congr_left fun p hp => ?_
  rw [h p hp]
  rfl
theorem kOf_same {M M2 : CatM} (h : Named M) (h2 : Named M2) (he : tbs M2 = tbs M) : kOf M2 = kOf M := by rw [kOf_eq h, kOf_eq h2, he]
theorem tf_sz {ok : Nat → Prop} {W : World} {h : Nat} {K : FM.T Tb} (k : RK ok W h K) (key : FM.Key) : (tf (FM.get K key)).1.cols.length ≤ 140737488355328 ∧ (tf (FM.get K key)).1.ixs.length ≤ 140737488355328 ∧ ∀ x ∈ (tf (FM.get K key)).1.ixs, x.cols.length ≤ 140737488355328 := by
  cases hg : FM.get K key with
  | none => exact ⟨Nat.zero_le _, Nat.zero_le _, fun x hx => absurd hx List.not_mem_nil⟩
  | some t =>
    obtain ⟨s1, -⟩ := chk_small (k.ck _ (FM.mem_of_get hg))
    exact ⟨Nat.le_trans s1.cl (by decide), Nat.le_trans s1.il (by decide), fun x hx => Nat.le_trans (s1.ixs x hx).2.1 (by decide)⟩
theorem OwnTb.lower {ok : Nat → Prop} {base : Nat} {W W1 : World} {v : Value} {t : Tb} (h : OwnTb ok base W v t) (hb : Below W.heap.size W W1) : OwnTb ok base W1 v t := h.move fun k _ hlt _ => hb.block k hlt
/-- A schema's own rows, as they are read. -/
theorem OwnTb.cs {ok : Nat → Prop} {base : Nat} {W : World} {t : Tb} {U1 U3 : Option Addr} {n1 n3 k1 k3 : Nat} (h : OwnTb ok base W (.agg #[.string t.nm, .slice U1 n1 k1, .int .i64 t.key, .slice U3 n3 k3]) t) : t.cols.length ≤ k1 ∧ kcol.C W U1 t.cols.length t.cols ∧ t.ixs.length ≤ k3 ∧ kix.C W U3 t.ixs.length t.ixs := by
  obtain ⟨v1, v2, e, h1, h2⟩ := h
  simp only [Value.agg.injEq, Array.mk.injEq, List.cons.injEq, true_and, and_true] at e
  obtain ⟨rfl, rfl⟩ := e
  obtain ⟨a1, a2, a3⟩ := Kd.R_reads' h1
  obtain ⟨b1, b2, b3⟩ := Kd.R_reads' h2
  exact ⟨a1 ▸ a2, a3, b1 ▸ b2, b3⟩
theorem ps_new (W : World) : ∀ w1 : World, IsCat (fun _ => True) w1 (W.heap.size + 1) W.heap.size [] → Below W.heap.size W w1 → PS (fun _ => True) W (w1.alloc (.cells #[.slice none 0 0] 50)) (W.heap.size + 1) W.heap.size w1.heap.size [] (kOf []) := fun w1 hc hb =>
  ⟨hc.below (below_alloc (Below.refl _ _) _), ⟨⟨_, heap_alloc_new w1 _, Kd.R_nil _ _ _ _ _⟩, List.Pairwise.nil, fun p hp => absurd hp List.not_mem_nil, Nat.zero_le _, fun p hp => absurd hp List.not_mem_nil⟩, Nat.le_refl _, hb.size, Go.Proofs.Ytjehbnhjaogfkaa.Sc.step hb (below_alloc (Below.refl _ _) _)⟩
set_option maxRecDepth 100000 in
set_option maxHeartbeats 32000000 in
theorem plays_walk (W : World) (A : Option Addr) (l : List SAct) (c : Nat) (hA : kact.C W A l.length l) (hc : l.length ≤ c) (hin : ∀ a ∈ l, AIn a) :
    Calls Try.prog 6 #[.slice A l.length c] W fun e W' => e = .returned (.bool true) ∧ Below W.heap.size W W' := by
  have HA := Aside0.mk hA
  have HIn := Aside0.mk hin
  clear hA hin
  go_enter Try.func6, Try.ntmps6
  go_upto_region 4 with (go_at_call 7; refine (new_walk W).mono ?_; rintro e w1 ⟨rfl, h1, hb1⟩; have HP0 := Aside0.mk (ps_new W w1 h1 hb1); clear h1 hb1)
  generalize w1.alloc (.cells #[.slice none 0 0] 50) = w2 at *
  generalize w1.heap.size = h at *
  generalize W.heap.size + 1 = g0 at *
  obtain ⟨b0, hb0⟩ : ∃ b0, W.heap.size = b0 := ⟨_, rfl⟩
  have HP : Aside0 (∃ b0, PS (fun _ => True) W w2 g0 b0 h [] (kOf [])) := ⟨⟨W.heap.size, HP0.out⟩⟩
  clear HP0 hb0
  obtain ⟨b1, HP1⟩ := HP.out
  have HP1 := Aside0.mk HP1
  clear HP
  go_wp2_with fail
  go_loopg [3, 5] (l.length + 101) (fun kq v3 v5 w' => ∃ (g b : Nat) (M : CatM) (i : Nat), v3 = .pointer (some ⟨g, 0, none⟩) ∧ v5 = .int .i64 (i : Int) ∧ Aside0 (i + kq = l.length + 101 ∧ i ≤ l.length ∧ i ≤ 100) ∧ Aside0 (PS (fun _ => True) W w' g b h M (kOf M)))
  case atStart => exact ⟨g0, b1, [], 0, rfl, rfl, ⟨by omega, Nat.zero_le _, by omega⟩, HP1⟩
  case round =>
    clear HP1
    obtain ⟨g, b, M, i, rfl, rfl, HJ, HP⟩ := hrel
    by_cases hi : i < l.length ∧ i < 100
    · obtain ⟨hi1, hi2⟩ := hi
      obtain ⟨kq1, rfl⟩ : ∃ kq1, gk = kq1 + 1 := ⟨gk - 1, by have := HJ.out; omega⟩
      have hj1 : (i : Int) < (l.length : Int) := by omega
      have hj2 : (i : Int) < 100 := by omega
      obtain ⟨ad, B, cb, D, cd, rfl, z0, z1, z2, z3, z4, z5, q1, q2, q3, q4⟩ := act_at HA.out i hi1
      have hai := HIn.out _ (List.getElem_mem hi1)
      obtain ⟨⟨kd, nm, t⟩, ht⟩ : ∃ x, l[i] = x := ⟨_, rfl⟩
      rw [ht] at z0 z1 z2 z3 z4 z5 q1 q2 q3 q4 hai
      simp only at z0 z1 z2 z3 z4 z5 q1 q2 q3 q4
      have hbe := HP.out.be
      have x0 := cell_keep hbe (World.block_lt_of_cell? _ _ z0) z0
      have y1 := far_cell (cell_keep hbe (World.block_lt_of_cell? _ _ z1) z1)
      have y2 := far_cell (cell_keep hbe (World.block_lt_of_cell? _ _ z2) z2)
      have y3 := far_cell (cell_keep hbe (World.block_lt_of_cell? _ _ z3) z3)
      have y4 := far_cell (cell_keep hbe (World.block_lt_of_cell? _ _ z4) z4)
      have y5 := far_cell (cell_keep hbe (World.block_lt_of_cell? _ _ z5) z5)
      have HIa := Aside0.mk hai
      have HQ := Aside0.mk (show t.cols.length ≤ cb ∧ kcol.C W B t.cols.length t.cols ∧ t.ixs.length ≤ cd ∧ kix.C W D t.ixs.length t.ixs from ⟨q1, q2, q3, q4⟩)
      have HI1 := Aside0.mk hi1
      have HI2 := Aside0.mk hi2
      obtain ⟨px, hpx⟩ : ∃ px, wr.heap.size = px := ⟨_, rfl⟩
      have hal := below_alloc (Below.refl wr.heap.size wr) (.cells #[.int .i64 kd, .string nm, .string t.nm, .slice B t.cols.length cb, .int .i64 t.key, .slice D t.ixs.length cd] 57)
      have HPa := Aside0.mk (HP.out.below hal)
      have HAx := Aside0.mk (show (wr.alloc (.cells #[.int .i64 kd, .string nm, .string t.nm, .slice B t.cols.length cb, .int .i64 t.key, .slice D t.ixs.length cd] 57)).heap[px]? = some (.cells #[.int .i64 kd, .string nm, .string t.nm, .slice B t.cols.length cb, .int .i64 t.key, .slice D t.ixs.length cd] 57 (0, 0)) from hpx ▸ heap_alloc_new wr _)
      have HLp := Aside0.mk (show g < px ∧ b < px ∧ h < px from hpx ▸ HP.out.lts)
      clear z0 z1 z2 z3 z4 z5 q1 q2 q3 q4 hai ht hbe hal hi1 hi2
      go_upto_region 8 with fail
      clear x0 y1 y2 y3 y4 y5 hpx HP hj1 hj2
      generalize wr.alloc (.cells #[.int .i64 kd, .string nm, .string t.nm, .slice B t.cols.length cb, .int .i64 t.key, .slice D t.ixs.length cd] 57) = wa at *
      have a0 := (blk_cell HAx.out 0).trans (show _ = some (Value.int .i64 kd) from rfl)
      go_upto_region 19 with (go_at_call 20; refine (among_walk kd _).mono ?_; rintro e w5 ⟨⟨k, rfl, hk⟩, rfl⟩; have HKk := Aside0.mk hk; clear hk)
      clear a0
      have hpa := HPa.out.lts
      have HLa := Aside0.mk (show px < wa.heap.size from blk_lt HAx.out)
      clear hpa
      rcases HKk.out with rfl | rfl | rfl | rfl
      · have a2 := (blk_cell HAx.out 2).trans (show _ = some (Value.string t.nm) from rfl)
        have a3 := (blk_cell HAx.out 3).trans (show _ = some (Value.slice B t.cols.length cb) from rfl)
        have a4 := (blk_cell HAx.out 4).trans (show _ = some (Value.int .i64 t.key) from rfl)
        have a5 := (blk_cell HAx.out 5).trans (show _ = some (Value.slice D t.ixs.length cd) from rfl)
        go_upto_region 21 with (go_at_call 21; refine (copy_walk wa t B cb D cd (Kd.C_below HQ.out.2.1 HPa.out.be) HQ.out.1 (Kd.C_below HQ.out.2.2.2 HPa.out.be) HQ.out.2.2.1 HIa.out.c1 HIa.out.c2 HIa.out.c3).mono ?_; rintro e w6 ⟨v6, rfl, ⟨u1, u3, rfl, hR1, hR3⟩, hb6⟩; obtain ⟨U1, k1, rfl⟩ := Kd.R_slice hR1; obtain ⟨U3, k3, rfl⟩ := Kd.R_slice hR3; have HO6 := Aside0.mk (show OwnTb (fun _ => True) wa.heap.size w6 (.agg #[.string t.nm, .slice U1 t.cols.length k1, .int .i64 t.key, .slice U3 t.ixs.length k3]) t from ⟨_, _, rfl, hR1, hR3⟩); have HB6 := Aside0.mk hb6; clear hR1 hR3 hb6)
        clear a2 a3 a4 a5
        obtain ⟨a, ha⟩ : ∃ a, wa.heap.size = a := ⟨_, rfl⟩
        obtain ⟨cc, hcc⟩ : ∃ cc, w6.heap.size = cc := ⟨_, rfl⟩
        have hal7 := below_alloc (Below.refl w6.heap.size w6) (.cells #[.string t.nm, .slice U1 t.cols.length k1, .int .i64 t.key, .slice U3 t.ixs.length k3] 30)
        have HO7 := Aside0.mk (show OwnTb (fun x => x < cc) a (w6.alloc (.cells #[.string t.nm, .slice U1 t.cols.length k1, .int .i64 t.key, .slice U3 t.ixs.length k3] 30)) (.agg #[.string t.nm, .slice U1 t.cols.length k1, .int .i64 t.key, .slice U3 t.ixs.length k3]) t from (HO6.out.mono (fun k _ _ hlt => hcc ▸ hlt) (Nat.le_of_eq ha.symm)).lower hal7)
        have HT7 := Aside0.mk (show TbBox (w6.alloc (.cells #[.string t.nm, .slice U1 t.cols.length k1, .int .i64 t.key, .slice U3 t.ixs.length k3] 30)) cc (.string t.nm) (.slice U1 t.cols.length k1) (.int .i64 t.key) (.slice U3 t.ixs.length k3) from hcc ▸ tbBox_made w6 _ _ _ _ _)
        have HP7 := Aside0.mk (((HPa.out.mono (ok' := fun x => x < a) (fun x _ hx => ha ▸ hx)).below HB6.out).below hal7)
        have HA7 := Aside0.mk (blk_below (blk_below HAx.out HB6.out) hal7)
        have HSz := Aside0.mk (show a ≤ cc ∧ cc ≤ (w6.alloc (.cells #[.string t.nm, .slice U1 t.cols.length k1, .int .i64 t.key, .slice U3 t.ixs.length k3] 30)).heap.size from ⟨by have := HB6.out.size; omega, by have := hal7.size; omega⟩)
        have HLb := Aside0.mk (show g < a ∧ b < a ∧ h < a ∧ px < a from by have := HLp.out; have := HLa.out; omega)
        have HWa := Aside0.mk (show W.heap.size ≤ a from ha ▸ HPa.out.be.size)
        clear HO6 HB6 hal7 ha HAx HPa
        generalize w6.alloc (.cells #[.string t.nm, .slice U1 t.cols.length k1, .int .i64 t.key, .slice U3 t.ixs.length k3] 30) = w7 at *
        rw [hcc]
        clear hcc
        have hdr := below_drew (Below.refl w7.heap.size w7)
        have HOd := Aside0.mk (HO7.out.lower hdr)
        have HTd := Aside0.mk (HT7.out.keep hdr HT7.out.lt)
        have HPd := Aside0.mk (HP7.out.below hdr)
        have HAd := Aside0.mk (blk_below HA7.out hdr)
        have HSd := Aside0.mk (show cc ≤ w7.drew.heap.size from HSz.out.2)
        clear hdr
        refine start_ (n := 15) (S := fun w' => w'.cell? ⟨cc, 0, none⟩ = some (.string t.nm) ∧ w'.cell? ⟨cc, 1, none⟩ = some (.slice U1 t.cols.length k1) ∧ w'.cell? ⟨cc, 2, none⟩ = some (.int .i64 t.key) ∧ w'.cell? ⟨cc, 3, none⟩ = some (.slice U3 t.ixs.length k3) ∧ w'.cell? ⟨px, 2, none⟩ = some (.string t.nm) ∧ w'.cell? ⟨px, 3, none⟩ = some (.slice B t.cols.length cb) ∧ w'.cell? ⟨px, 4, none⟩ = some (.int .i64 t.key) ∧ w'.cell? ⟨px, 5, none⟩ = some (.slice D t.ixs.length cd)) (ds := []) #[false, false, false, false, false, false, false, false, false, false, false, false, false, false, false] (by kernel_rfl) rfl rfl ⟨HTd.out.c0, HTd.out.c1, HTd.out.c2, HTd.out.c3, (blk_cell HAd.out 2).trans rfl, (blk_cell HAd.out 3).trans rfl, (blk_cell HAd.out 4).trans rfl, (blk_cell HAd.out 5).trans rfl⟩ (fun hHeld => ?_)
        refine with_tabW t6_21 b6_21 (fun HT_ HW_ => ?_)
        clear HO7 HT7 HP7 HA7
        have HSz2 := Aside0.mk HSz.out.1
        clear HSz
        generalize w7.drew = wd at HOd HTd HPd HAd HSd hHeld ⊢
        refine pure_ (i := 0) (N := some 79) (v := ?_) (a' := ?_) #[true, false, false, false, false, false, false, false, false, false, false, false, false, false, false] rfl rfl (any_of HT_.out (by kernel_rfl)) (fun _ _ _ h => h) (Or.inl ⟨by rfl, ?_⟩) ?_ ?_
        rotate_left
        · intro w'
          go_simp
          with_reducible rfl
        rotate_left
        · simp only [Act.put, List.setIfInBounds_toArray, List.set_cons_zero, List.set_cons_succ, i64_w, i32_w]
          rfl
        refine pure_ (i := 3) (N := some 82) (v := ?_) (a' := ?_) #[true, false, false, true, false, false, false, false, false, false, false, false, false, false, false] rfl rfl (any_of HT_.out (by kernel_rfl)) (fun _ _ _ h => h) (Or.inl ⟨by rfl, ?_⟩) ?_ ?_
        rotate_left
        · intro w'
          go_simp
          with_reducible rfl
        rotate_left
        · simp only [Act.put, List.setIfInBounds_toArray, List.set_cons_zero, List.set_cons_succ, i64_w, i32_w]
          rfl
        refine pure_ (i := 4) (N := some 83) (v := ?_) (a' := ?_) #[true, false, false, true, true, false, false, false, false, false, false, false, false, false, false] rfl rfl (any_of HT_.out (by kernel_rfl)) (fun _ _ _ h => h) (Or.inl ⟨by rfl, ?_⟩) ?_ ?_
        rotate_left
        · intro w'
          go_simp
          with_reducible rfl
        rotate_left
        · simp only [Act.put, List.setIfInBounds_toArray, List.set_cons_zero, List.set_cons_succ, i64_w, i32_w]
          rfl
        refine take_ (i := 1) (N := some 80) (v := ?_) (a' := ?_) #[true, true, false, true, true, false, false, false, false, false, false, false, false, false, false] rfl rfl (take_ofW HT_.out HW_.out (by kernel_rfl)) (fun _ _ _ h => h) (Or.inl ⟨by rfl, ?_⟩) hHeld ?_ ?_
        rotate_left
        · rintro w' ⟨s0, s1, s2, s3, s4, s5, s6, s7⟩
          go_simp
          with_reducible rfl
        rotate_left
        · simp only [Act.put, List.setIfInBounds_toArray, List.set_cons_zero, List.set_cons_succ, i64_w, i32_w]
          rfl
        refine take_ (i := 5) (N := some 84) (v := ?_) (a' := ?_) #[true, true, false, true, true, true, false, false, false, false, false, false, false, false, false] rfl rfl (take_ofW HT_.out HW_.out (by kernel_rfl)) (fun _ _ _ h => h) (Or.inl ⟨by rfl, ?_⟩) hHeld ?_ ?_
        rotate_left
        · rintro w' ⟨s0, s1, s2, s3, s4, s5, s6, s7⟩
          go_simp
          with_reducible rfl
        rotate_left
        · simp only [Act.put, List.setIfInBounds_toArray, List.set_cons_zero, List.set_cons_succ, i64_w, i32_w]
          rfl
        refine one_ (i := 2) (N := some 81) #[true, true, true, true, true, true, false, false, false, false, false, false, false, false, false] rfl rfl (one_of HT_.out (by kernel_rfl)) (by decide) (fun K hK => ?_)
        refine goes_ Try.func9 (by kernel_rfl) rfl #[.pointer (some ⟨g, 0, none⟩), .agg #[.string t.nm, .slice U1 t.cols.length k1, .int .i64 t.key, .slice U3 t.ixs.length k3]] (by rfl) rfl rfl (by (try simp only [List.map_toArray, List.map_cons, List.map_nil]); first | done | rfl) ?_
        refine (create_walk (fun x => x < a) wd g b M HPd.out.cat t U1 k1 U3 k3 HOd.out.cs.2.1 HOd.out.cs.1 HOd.out.cs.2.2.2 HOd.out.cs.2.2.1 HIa.out.t.nm HIa.out.t.cnm HIa.out.t.xnm HIa.out.t.cl HIa.out.t.il HIa.out.t.xl).mono ?_
        intro e w8 hcr
        obtain ⟨rfl, hf8, M8, hc8, hk8⟩ := cr_post hcr
        refine ⟨_, rfl, ?_⟩
        have HP8 := Aside0.mk ((HPd.out.one hc8 hf8 (fun x hx => .inl hx)).mono (ok' := fun x => x < a ∨ cc ≤ x) (fun x hx _ => hx.imp id fun h => Nat.le_trans HSd.out h))
        have HO8 := Aside0.mk (HOd.out.frTy (x := b) hf8 (fun q cells _ => HPd.out.cat.nocells cells q))
        have HT8 := Aside0.mk (HTd.out.fr hf8 (show ¬ cc = b from by have := HLb.out; have := HSz2.out; omega))
        have HA8 := Aside0.mk ((hf8.block px (blk_lt HAd.out) (show ¬ px = b from by have := HLp.out; omega)).trans HAd.out)
        have HK8 := Aside0.mk hk8
        have HS8 := Aside0.mk (Nat.le_trans HSd.out hf8.size)
        clear hcr hf8 hc8 hk8
        refine hK.out _ _ ⟨HT8.out.c0, HT8.out.c1, HT8.out.c2, HT8.out.c3, (blk_cell HA8.out 2).trans rfl, (blk_cell HA8.out 3).trans rfl, (blk_cell HA8.out 4).trans rfl, (blk_cell HA8.out 5).trans rfl⟩ (fun hHeld => ?_)
        clear hK K
        refine norm_ (a' := ?_) ?_ ?_
        rotate_left
        · show Act.put _ (some 81) _ = _
          simp only [Act.put, List.setIfInBounds_toArray, List.set_cons_zero, List.set_cons_succ, i64_w, i32_w]
          rfl
        refine one_ (i := 6) (N := some 85) #[true, true, true, true, true, true, true, false, false, false, false, false, false, false, false] rfl rfl (one_of HT_.out (by kernel_rfl)) (by decide) (fun K hK => ?_)
        refine goes_ Try.func22 (by kernel_rfl) rfl #[.pointer (some ⟨h, 0, none⟩), .agg #[.string t.nm, .slice B t.cols.length cb, .int .i64 t.key, .slice D t.ixs.length cd]] (by rfl) rfl rfl (by (try simp only [List.map_toArray, List.map_cons, List.map_nil]); first | done | rfl) ?_
        refine (dcreate_walk (fun x => x < a ∨ cc ≤ x) w8 h (kOf M) HP8.out.rk t B cb D cd (Kd.C_below HQ.out.2.1 HP8.out.be) HQ.out.1 (Kd.C_below HQ.out.2.2.2 HP8.out.be) HQ.out.2.2.1).mono ?_
        rw [crK_kOf]
        rintro e w9 ⟨rfl, hr9, hf9⟩
        refine ⟨_, rfl, ?_⟩
        obtain ⟨hv9, hh9⟩ := HP8.out.hcell
        have HP9 := Aside0.mk (HP8.out.two (ok' := fun x => x < a ∨ cc ≤ x) (K1 := kOf M8) (by rw [HK8.out]; exact hr9.mono fun x hx _ => hx.elim id fun h => .inr (Nat.le_trans HS8.out h)) hf9 (fun x hx => hx))
        have HO9 := Aside0.mk (HO8.out.frTy (x := h) hf9 (fun q cells hq e => by rw [hh9] at e; rcases hq with rfl | rfl | rfl <;> (injection e with e; injection e with _ e; cases e)))
        have HT9 := Aside0.mk (HT8.out.fr hf9 (show ¬ cc = h from by have := HLb.out; have := HSz2.out; omega))
        have HA9 := Aside0.mk ((hf9.block px (blk_lt HA8.out) (show ¬ px = h from by have := HLp.out; omega)).trans HA8.out)
        clear hr9 hf9 hh9
        refine hK.out _ _ ⟨HT9.out.c0, HT9.out.c1, HT9.out.c2, HT9.out.c3, (blk_cell HA9.out 2).trans rfl, (blk_cell HA9.out 3).trans rfl, (blk_cell HA9.out 4).trans rfl, (blk_cell HA9.out 5).trans rfl⟩ (fun hHeld => ?_)
        clear hK K
        refine norm_ (a' := ?_) ?_ ?_
        rotate_left
        · show Act.put _ (some 85) _ = _
          simp only [Act.put, List.setIfInBounds_toArray, List.set_cons_zero, List.set_cons_succ, i64_w, i32_w]
          rfl
        refine pure_ (i := 7) (N := some 86) (v := ?_) (a' := ?_) #[true, true, true, true, true, true, true, true, false, false, false, false, false, false, false] rfl rfl (any_of HT_.out (by kernel_rfl)) (fun _ _ _ h => h) (Or.inl ⟨by rfl, ?_⟩) ?_ ?_
        rotate_left
        · intro w'
          go_simp
          with_reducible rfl
        rotate_left
        · simp only [Act.put, List.setIfInBounds_toArray, List.set_cons_zero, List.set_cons_succ, i64_w, i32_w]
          rfl
        refine pure_ (i := 8) (N := some 87) (v := ?_) (a' := ?_) #[true, true, true, true, true, true, true, true, true, false, false, false, false, false, false] rfl rfl (any_of HT_.out (by kernel_rfl)) (fun _ _ _ h => h) (Or.inl ⟨by rfl, ?_⟩) ?_ ?_
        rotate_left
        · intro w'
          go_simp
          with_reducible rfl
        rotate_left
        · simp only [Act.put, List.setIfInBounds_toArray, List.set_cons_zero, List.set_cons_succ, i64_w, i32_w]
          rfl
        refine take_ (i := 9) (N := some 88) (v := ?_) (a' := ?_) #[true, true, true, true, true, true, true, true, true, true, false, false, false, false, false] rfl rfl (take_ofW HT_.out HW_.out (by kernel_rfl)) (fun _ _ _ h => h) (Or.inl ⟨by rfl, ?_⟩) hHeld ?_ ?_
        rotate_left
        · rintro w' ⟨s0, s1, s2, s3, s4, s5, s6, s7⟩
          go_simp
          with_reducible rfl
        rotate_left
        · simp only [Act.put, List.setIfInBounds_toArray, List.set_cons_zero, List.set_cons_succ, i64_w, i32_w]
          rfl
        refine pure_ (i := 10) (N := some 89) (v := ?_) (a' := ?_) #[true, true, true, true, true, true, true, true, true, true, true, false, false, false, false] rfl rfl (any_of HT_.out (by kernel_rfl)) (fun _ _ _ h => h) (Or.inl ⟨by rfl, ?_⟩) ?_ ?_
        rotate_left
        · intro w'
          go_simp
          with_reducible rfl
        rotate_left
        · simp only [Act.put, List.setIfInBounds_toArray, List.set_cons_zero, List.set_cons_succ, i64_w, i32_w]
          rfl
        refine take_ (i := 11) (N := some 90) (v := ?_) (a' := ?_) #[true, true, true, true, true, true, true, true, true, true, true, true, false, false, false] rfl rfl (take_ofW HT_.out HW_.out (by kernel_rfl)) (fun _ _ _ h => h) (Or.inl ⟨by rfl, ?_⟩) hHeld ?_ ?_
        rotate_left
        · rintro w' ⟨s0, s1, s2, s3, s4, s5, s6, s7⟩
          go_simp
          with_reducible rfl
        rotate_left
        · simp only [Act.put, List.setIfInBounds_toArray, List.set_cons_zero, List.set_cons_succ, i64_w, i32_w]
          rfl
        refine one_ (i := 12) (N := some 91) #[true, true, true, true, true, true, true, true, true, true, true, true, true, false, false] rfl rfl (one_of HT_.out (by kernel_rfl)) (by decide) (fun K hK => ?_)
        refine goes_ Try.func18 (by kernel_rfl) rfl #[.agg #[.string t.nm, .slice U1 t.cols.length k1, .int .i64 t.key, .slice U3 t.ixs.length k3], .agg #[.string t.nm, .slice B t.cols.length cb, .int .i64 t.key, .slice D t.ixs.length cd]] (by rfl) rfl rfl (by (try simp only [List.map_toArray, List.map_cons, List.map_nil]); first | done | rfl) ?_
        refine (sameTb_walk w9 t U1 k1 U3 k3 B cb D cd HO9.out.cs.2.1 HO9.out.cs.2.2.2 (Kd.C_below HQ.out.2.1 HP9.out.be) (Kd.C_below HQ.out.2.2.2 HP9.out.be) HIa.out.t.cl HIa.out.t.il HIa.out.t.xl).mono ?_
        rintro e w10 ⟨rfl, hb10⟩
        refine ⟨_, rfl, ?_⟩
        have HP10 := Aside0.mk (HP9.out.below hb10)
        have HO10 := Aside0.mk (HO9.out.lower hb10)
        have HT10 := Aside0.mk (HT9.out.keep hb10 HT9.out.lt)
        have HA10 := Aside0.mk (blk_below HA9.out hb10)
        clear hb10
        refine hK.out _ _ ⟨HT10.out.c0, HT10.out.c1, HT10.out.c2, HT10.out.c3, (blk_cell HA10.out 2).trans rfl, (blk_cell HA10.out 3).trans rfl, (blk_cell HA10.out 4).trans rfl, (blk_cell HA10.out 5).trans rfl⟩ (fun hHeld => ?_)
        clear hK K
        refine norm_ (a' := ?_) ?_ ?_
        rotate_left
        · show Act.put _ (some 91) _ = _
          simp only [Act.put, List.setIfInBounds_toArray, List.set_cons_zero, List.set_cons_succ, i64_w, i32_w]
          rfl
        refine pure_ (i := 13) (N := some 92) (v := ?_) (a' := ?_) #[true, true, true, true, true, true, true, true, true, true, true, true, true, true, false] rfl rfl (any_of HT_.out (by kernel_rfl)) (fun _ _ _ h => h) (Or.inl ⟨by rfl, ?_⟩) ?_ ?_
        rotate_left
        · intro w'
          go_simp
          with_reducible rfl
        rotate_left
        · simp only [Act.put, List.setIfInBounds_toArray, List.set_cons_zero, List.set_cons_succ, i64_w, i32_w]
          rfl
        refine pure_ (i := 14) (N := some 93) (v := ?_) (a' := ?_) #[true, true, true, true, true, true, true, true, true, true, true, true, true, true, true] rfl rfl (any_of HT_.out (by kernel_rfl)) (fun _ _ _ h => h) (Or.inl ⟨by rfl, ?_⟩) ?_ ?_
        rotate_left
        · intro w'
          go_simp
          with_reducible rfl
        rotate_left
        · simp only [Act.put, List.setIfInBounds_toArray, List.set_cons_zero, List.set_cons_succ, i64_w, i32_w]
          rfl
        refine done_ (done_of HT_.out (by kernel_rfl)) ?_
        clear HT_ HW_ HOd HTd HPd HAd HP8 HO8 HT8 HA8 HP9 HO9 HT9 HA9 HA10
        have t0 := HT10.out.c0
        have t1 := HT10.out.c1
        have t2 := HT10.out.c2
        have t3 := HT10.out.c3
        go_upto_region 33 with (go_at_call 23; refine (spoil_walk (fun x => x < cc) a w10 _ t HO10.out).mono ?_; rintro e w11 ⟨rfl, hf11⟩; have HPt := Aside0.mk ((HP10.out.spoil (a := a) (c := cc) hf11 (fun x hx => ⟨hx.2.1, hx.1⟩) (fun x hx => hx) HLb.out.1 HLb.out.2.1 HLb.out.2.2.1 HWa.out).mono (ok' := fun _ => True) (fun _ _ _ => trivial)); clear hf11)
        clear t0 t1 t2 t3 HP10 HO10 HT10
        obtain ⟨L, hL⟩ : ∃ L, tbs M8 = L := ⟨_, rfl⟩
        have HN := Aside0.mk (names_two _ g b h M8 HPt.out.cat (by rw [← kOf_tbs]; exact HPt.out.rk.rc))
        rw [hL] at HN
        clear hL
        go_wp2_with (first
          | (go_at_call 12; refine HN3.out.mono ?_; rintro e w23 ⟨rfl, hb23⟩; have HPn := Aside0.mk (HPt.out.below hb23); clear hb23)
          | (go_at_call 16; refine HN2.out.mono ?_; rintro e w22 ⟨B2, d2, rfl, -, hN3⟩; have HN3 := Aside0.mk hN3; clear hN3)
          | (go_at_call 13; refine HN.out.mono ?_; rintro e w21 ⟨A2, c2, rfl, -, hN2⟩; have HN2 := Aside0.mk hN2; clear hN2))
        go_roundg kq1
        case measure => have := HJ.out; omega
        case rel => exact ⟨g, b, M8, i + 1, rfl, (by have h2 := HI2.out; first | (congr 1; unfold wrap64; omega) | go_num), ⟨by have := HJ.out; omega, by have := HI1.out; omega, by have := HI2.out; omega⟩, HPn⟩
      · obtain ⟨dn, hdn⟩ : ∃ dn : Int, (if (FM.get M nm.data.toList).isSome then (0 : Int) else 141) = dn := ⟨_, rfl⟩
        have HDn := Aside0.mk hdn
        clear hdn
        go_upto_region 25 with fail
        have hdr := below_drew (Below.refl wa.heap.size wa)
        have HPd := Aside0.mk (HPa.out.below hdr)
        have HAd := Aside0.mk (blk_below HAx.out hdr)
        clear hdr
        refine start_ (n := 9) (S := fun w' => w'.cell? ⟨px, 1, none⟩ = some (.string nm)) (ds := []) #[false, false, false, false, false, false, false, false, false] (by kernel_rfl) rfl rfl ((blk_cell HAd.out 1).trans rfl) (fun hHeld => ?_)
        refine with_tabW t6_25 b6_25 (fun HT_ HW_ => ?_)
        clear HPa HAx HLa
        generalize wa.drew = wd at HPd HAd hHeld ⊢
        refine pure_ (i := 0) (N := some 98) (v := ?_) (a' := ?_) #[true, false, false, false, false, false, false, false, false] rfl rfl (any_of HT_.out (by kernel_rfl)) (fun _ _ _ h => h) (Or.inl ⟨by rfl, ?_⟩) ?_ ?_
        rotate_left
        · intro w'
          go_simp
          with_reducible rfl
        rotate_left
        · simp only [Act.put, List.setIfInBounds_toArray, List.set_cons_zero, List.set_cons_succ, i64_w, i32_w]
          rfl
        refine pure_ (i := 1) (N := some 99) (v := ?_) (a' := ?_) #[true, true, false, false, false, false, false, false, false] rfl rfl (any_of HT_.out (by kernel_rfl)) (fun _ _ _ h => h) (Or.inl ⟨by rfl, ?_⟩) ?_ ?_
        rotate_left
        · intro w'
          go_simp
          with_reducible rfl
        rotate_left
        · simp only [Act.put, List.setIfInBounds_toArray, List.set_cons_zero, List.set_cons_succ, i64_w, i32_w]
          rfl
        refine pure_ (i := 4) (N := some 102) (v := ?_) (a' := ?_) #[true, true, false, false, true, false, false, false, false] rfl rfl (any_of HT_.out (by kernel_rfl)) (fun _ _ _ h => h) (Or.inl ⟨by rfl, ?_⟩) ?_ ?_
        rotate_left
        · intro w'
          go_simp
          with_reducible rfl
        rotate_left
        · simp only [Act.put, List.setIfInBounds_toArray, List.set_cons_zero, List.set_cons_succ, i64_w, i32_w]
          rfl
        refine pure_ (i := 5) (N := some 103) (v := ?_) (a' := ?_) #[true, true, false, false, true, true, false, false, false] rfl rfl (any_of HT_.out (by kernel_rfl)) (fun _ _ _ h => h) (Or.inl ⟨by rfl, ?_⟩) ?_ ?_
        rotate_left
        · intro w'
          go_simp
          with_reducible rfl
        rotate_left
        · simp only [Act.put, List.setIfInBounds_toArray, List.set_cons_zero, List.set_cons_succ, i64_w, i32_w]
          rfl
        refine take_ (i := 2) (N := some 100) (v := ?_) (a' := ?_) #[true, true, true, false, true, true, false, false, false] rfl rfl (take_ofW HT_.out HW_.out (by kernel_rfl)) (fun _ _ _ h => h) (Or.inl ⟨by rfl, ?_⟩) hHeld ?_ ?_
        rotate_left
        · rintro w' s0
          go_simp
          with_reducible rfl
        rotate_left
        · simp only [Act.put, List.setIfInBounds_toArray, List.set_cons_zero, List.set_cons_succ, i64_w, i32_w]
          rfl
        refine take_ (i := 6) (N := some 104) (v := ?_) (a' := ?_) #[true, true, true, false, true, true, true, false, false] rfl rfl (take_ofW HT_.out HW_.out (by kernel_rfl)) (fun _ _ _ h => h) (Or.inl ⟨by rfl, ?_⟩) hHeld ?_ ?_
        rotate_left
        · rintro w' s0
          go_simp
          with_reducible rfl
        rotate_left
        · simp only [Act.put, List.setIfInBounds_toArray, List.set_cons_zero, List.set_cons_succ, i64_w, i32_w]
          rfl
        refine one_ (i := 3) (N := some 101) #[true, true, true, true, true, true, true, false, false] rfl rfl (one_of HT_.out (by kernel_rfl)) (by decide) (fun K hK => ?_)
        refine goes_ Try.func10 (by kernel_rfl) rfl #[.pointer (some ⟨g, 0, none⟩), .string nm] (by rfl) rfl rfl (by (try simp only [List.map_toArray, List.map_cons, List.map_nil]); first | done | rfl) ?_
        refine (drop_walk (fun _ => True) wd g b M HPd.out.cat nm HIa.out.nm).mono ?_
        rw [HDn.out]
        rintro e w8 ⟨rfl, hc8, hf8⟩
        refine ⟨_, rfl, ?_⟩
        have HP8 := Aside0.mk (HPd.out.one hc8 hf8 (fun x hx => hx))
        have HA8 := Aside0.mk ((hf8.block px (blk_lt HAd.out) (show ¬ px = b from by have := HLp.out; omega)).trans HAd.out)
        clear hc8 hf8
        refine hK.out _ _ ((blk_cell HA8.out 1).trans rfl) (fun hHeld => ?_)
        clear hK K
        refine norm_ (a' := ?_) ?_ ?_
        rotate_left
        · show Act.put _ (some 101) _ = _
          simp only [Act.put, List.setIfInBounds_toArray, List.set_cons_zero, List.set_cons_succ, i64_w, i32_w]
          rfl
        refine one_ (i := 7) (N := some 105) #[true, true, true, true, true, true, true, true, false] rfl rfl (one_of HT_.out (by kernel_rfl)) (by decide) (fun K hK => ?_)
        refine goes_ Try.func24 (by kernel_rfl) rfl #[.pointer (some ⟨h, 0, none⟩), .string nm] (by rfl) rfl rfl (by (try simp only [List.map_toArray, List.map_cons, List.map_nil]); first | done | rfl) ?_
        refine (ddrop_walk (fun _ => True) w8 h (kOf M) HP8.out.rk nm).mono ?_
        rw [kOf_isSome, HDn.out]
        rintro e w9 ⟨rfl, hr9, hf9⟩
        refine ⟨_, rfl, ?_⟩
        have HPt := Aside0.mk (HP8.out.two (ok' := fun _ => True) (K1 := kOf (FM.del M nm.data.toList)) (by rw [kOf_del]; exact hr9.mono fun _ _ _ => trivial) hf9 (fun x hx => hx))
        have HA9 := Aside0.mk ((hf9.block px (blk_lt HA8.out) (show ¬ px = h from by have := HLp.out; omega)).trans HA8.out)
        clear hr9 hf9
        refine hK.out _ _ ((blk_cell HA9.out 1).trans rfl) (fun hHeld => ?_)
        clear hK K
        refine norm_ (a' := ?_) ?_ ?_
        rotate_left
        · show Act.put _ (some 105) _ = _
          simp only [Act.put, List.setIfInBounds_toArray, List.set_cons_zero, List.set_cons_succ, i64_w, i32_w]
          rfl
        refine pure_ (i := 8) (N := some 106) (v := ?_) (a' := ?_) #[true, true, true, true, true, true, true, true, true] rfl rfl (any_of HT_.out (by kernel_rfl)) (fun _ _ _ h => h) (Or.inl ⟨by rfl, ?_⟩) ?_ ?_
        rotate_left
        · intro w'
          go_simp
          with_reducible rfl
        rotate_left
        · simp only [Act.put, List.setIfInBounds_toArray, List.set_cons_zero, List.set_cons_succ, i64_w, i32_w]
          rfl
        refine done_ (done_of HT_.out (by kernel_rfl)) ?_
        clear HT_ HW_ HPd HAd HP8 HA8 HA9 HDn
        go_upto_region 33 with fail
        obtain ⟨M8, hM8⟩ : ∃ M8, FM.del M nm.data.toList = M8 := ⟨_, rfl⟩
        rw [hM8] at HPt
        clear hM8
        obtain ⟨L, hL⟩ : ∃ L, tbs M8 = L := ⟨_, rfl⟩
        have HN := Aside0.mk (names_two _ g b h M8 HPt.out.cat (by rw [← kOf_tbs]; exact HPt.out.rk.rc))
        rw [hL] at HN
        clear hL
        go_wp2_with (first
          | (go_at_call 12; refine HN3.out.mono ?_; rintro e w23 ⟨rfl, hb23⟩; have HPn := Aside0.mk (HPt.out.below hb23); clear hb23)
          | (go_at_call 16; refine HN2.out.mono ?_; rintro e w22 ⟨B2, d2, rfl, -, hN3⟩; have HN3 := Aside0.mk hN3; clear hN3)
          | (go_at_call 13; refine HN.out.mono ?_; rintro e w21 ⟨A2, c2, rfl, -, hN2⟩; have HN2 := Aside0.mk hN2; clear hN2))
        go_roundg kq1
        case measure => have := HJ.out; omega
        case rel => exact ⟨g, b, M8, i + 1, rfl, (by have h2 := HI2.out; first | (congr 1; unfold wrap64; omega) | go_num), ⟨by have := HJ.out; omega, by have := HI1.out; omega, by have := HI2.out; omega⟩, HPn⟩
      · have a1 := (blk_cell HAx.out 1).trans (show _ = some (Value.string nm) from rfl)
        obtain ⟨r, hr⟩ : ∃ r, FM.get (kOf M) nm.data.toList = r := ⟨_, rfl⟩
        have hsz := tf_sz HPa.out.rk nm.data.toList
        rw [hr] at hsz
        obtain ⟨tt, htt⟩ : ∃ tt, (tf r).1 = tt := ⟨_, rfl⟩
        obtain ⟨nn, hnn⟩ : ∃ nn, (tf r).2 = nn := ⟨_, rfl⟩
        rw [htt] at hsz
        have HSs := Aside0.mk hsz
        have HRr := Aside0.mk hr
        have HTt := Aside0.mk htt
        have HNn := Aside0.mk hnn
        clear hsz hr htt hnn
        go_upto_region 29 with (go_at_call 17; refine (find_walk (fun _ => True) wa g b M HPa.out.cat nm HIa.out.nm).mono ?_; rintro e w6 ⟨hfp, hb6⟩; obtain ⟨v6, he6, hO6⟩ := find_u hfp; rw [HRr.out, HNn.out] at he6; rw [HRr.out, HTt.out] at hO6; subst he6; obtain ⟨u1, u3, rfl, hR1, hR3⟩ := hO6; obtain ⟨U1, k1, rfl⟩ := Kd.R_slice hR1; obtain ⟨U3, k3, rfl⟩ := Kd.R_slice hR3; have HO6 := Aside0.mk (show OwnTb (fun _ => True) wa.heap.size w6 (.agg #[.string tt.nm, .slice U1 tt.cols.length k1, .int .i64 tt.key, .slice U3 tt.ixs.length k3]) tt from ⟨_, _, rfl, hR1, hR3⟩); have HB6 := Aside0.mk hb6; clear hR1 hR3 hb6 hfp)
        clear a1
        obtain ⟨a, ha⟩ : ∃ a, wa.heap.size = a := ⟨_, rfl⟩
        obtain ⟨cc, hcc⟩ : ∃ cc, w6.heap.size = cc := ⟨_, rfl⟩
        have hal7 := below_alloc (Below.refl w6.heap.size w6) (.cells #[.string tt.nm, .slice U1 tt.cols.length k1, .int .i64 tt.key, .slice U3 tt.ixs.length k3] 30)
        have HO7 := Aside0.mk (show OwnTb (fun x => x < cc) a (w6.alloc (.cells #[.string tt.nm, .slice U1 tt.cols.length k1, .int .i64 tt.key, .slice U3 tt.ixs.length k3] 30)) (.agg #[.string tt.nm, .slice U1 tt.cols.length k1, .int .i64 tt.key, .slice U3 tt.ixs.length k3]) tt from (HO6.out.mono (fun k _ _ hlt => hcc ▸ hlt) (Nat.le_of_eq ha.symm)).lower hal7)
        have HT7 := Aside0.mk (show TbBox (w6.alloc (.cells #[.string tt.nm, .slice U1 tt.cols.length k1, .int .i64 tt.key, .slice U3 tt.ixs.length k3] 30)) cc (.string tt.nm) (.slice U1 tt.cols.length k1) (.int .i64 tt.key) (.slice U3 tt.ixs.length k3) from hcc ▸ tbBox_made w6 _ _ _ _ _)
        have HP7 := Aside0.mk (((HPa.out.mono (ok' := fun x => x < a) (fun x _ hx => ha ▸ hx)).below HB6.out).below hal7)
        have HA7 := Aside0.mk (blk_below (blk_below HAx.out HB6.out) hal7)
        have HLb := Aside0.mk (show g < a ∧ b < a ∧ h < a ∧ px < a from by have := HLp.out; have := HLa.out; omega)
        have HWa := Aside0.mk (show W.heap.size ≤ a from ha ▸ HPa.out.be.size)
        clear HO6 HB6 hal7 ha HAx HPa
        generalize w6.alloc (.cells #[.string tt.nm, .slice U1 tt.cols.length k1, .int .i64 tt.key, .slice U3 tt.ixs.length k3] 30) = w7 at *
        rw [hcc]
        clear hcc
        have a1 := (blk_cell HA7.out 1).trans (show _ = some (Value.string nm) from rfl)
        go_upto_region 30 with (go_at_call 25; refine (dfind_walk _ w7 h (kOf M) HP7.out.rk nm).mono ?_; rw [HRr.out]; rintro e w8 ⟨hfp, hb8⟩; obtain ⟨v8, he8, hO8⟩ := rfind_u hfp; rw [HNn.out] at he8; rw [HTt.out] at hO8; subst he8; obtain ⟨u1, u3, rfl, hR1, hR3⟩ := hO8; obtain ⟨V1, j1, rfl⟩ := Kd.R_slice hR1; obtain ⟨V3, j3, rfl⟩ := Kd.R_slice hR3; have HO8 := Aside0.mk (show OwnTb (fun _ => True) w7.heap.size w8 (.agg #[.string tt.nm, .slice V1 tt.cols.length j1, .int .i64 tt.key, .slice V3 tt.ixs.length j3]) tt from ⟨_, _, rfl, hR1, hR3⟩); have HB8 := Aside0.mk hb8; clear hR1 hR3 hb8 hfp)
        clear a1
        have hal9 := below_alloc (Below.refl w8.heap.size w8) (.cells #[.string tt.nm, .slice V1 tt.cols.length j1, .int .i64 tt.key, .slice V3 tt.ixs.length j3] 30)
        have hb79 := step HB8.out hal9
        have HY9 := Aside0.mk (HO8.out.lower hal9)
        have HX9 := Aside0.mk (tbBox_made w8 (.string tt.nm) (.slice V1 tt.cols.length j1) (.int .i64 tt.key) (.slice V3 tt.ixs.length j3) 30)
        have HO9 := Aside0.mk (HO7.out.lower hb79)
        have HT9 := Aside0.mk (HT7.out.keep hb79 HT7.out.lt)
        have HP9 := Aside0.mk (HP7.out.below hb79)
        clear hal9 hb79 HO7 HT7 HP7 HA7 HO8 HB8
        generalize w8.alloc (.cells #[.string tt.nm, .slice V1 tt.cols.length j1, .int .i64 tt.key, .slice V3 tt.ixs.length j3] 30) = w9 at *
        generalize w8.heap.size = p9 at *
        have r0 := HT9.out.c0
        have r1 := HT9.out.c1
        have r2 := HT9.out.c2
        have r3 := HT9.out.c3
        have s0 := HX9.out.c0
        have s1 := HX9.out.c1
        have s2 := HX9.out.c2
        have s3 := HX9.out.c3
        go_upto_region 33 with (first
          | (go_at_call 18; refine (sameTb_walk w9 tt U1 k1 U3 k3 V1 j1 V3 j3 HO9.out.cs.2.1 HO9.out.cs.2.2.2 HY9.out.cs.2.1 HY9.out.cs.2.2.2 HSs.out.1 HSs.out.2.1 HSs.out.2.2).mono ?_; rintro e w10 ⟨rfl, hb10⟩; have HP10 := Aside0.mk (HP9.out.below hb10); have HO10 := Aside0.mk (HO9.out.lower hb10); have ht10 := HT9.out.keep hb10 HT9.out.lt; have u0 := ht10.c0; have u1 := ht10.c1; have u2 := ht10.c2; have u3 := ht10.c3; clear hb10 ht10)
          | (go_at_call 23; refine (spoil_walk (fun x => x < cc) a w10 _ tt HO10.out).mono ?_; rintro e w11 ⟨rfl, hf11⟩; have HPt := Aside0.mk ((HP10.out.spoil (a := a) (c := cc) hf11 (fun x hx => ⟨hx.2.1, hx.1⟩) (fun x hx => .inl hx) HLb.out.1 HLb.out.2.1 HLb.out.2.2.1 HWa.out).mono (ok' := fun _ => True) (fun _ _ _ => trivial)); clear hf11))
        clear r0 r1 r2 r3 s0 s1 s2 s3 u0 u1 u2 u3 HP10 HO10 HY9 HX9 HO9 HT9 HP9
        obtain ⟨L, hL⟩ : ∃ L, tbs M = L := ⟨_, rfl⟩
        have HN := Aside0.mk (names_two _ g b h M HPt.out.cat (by rw [← kOf_tbs]; exact HPt.out.rk.rc))
        rw [hL] at HN
        clear hL
        go_wp2_with (first
          | (go_at_call 12; refine HN3.out.mono ?_; rintro e w23 ⟨rfl, hb23⟩; have HPn := Aside0.mk (HPt.out.below hb23); clear hb23)
          | (go_at_call 16; refine HN2.out.mono ?_; rintro e w22 ⟨B2, d2, rfl, -, hN3⟩; have HN3 := Aside0.mk hN3; clear hN3)
          | (go_at_call 13; refine HN.out.mono ?_; rintro e w21 ⟨A2, c2, rfl, -, hN2⟩; have HN2 := Aside0.mk hN2; clear hN2))
        go_roundg kq1
        case measure => have := HJ.out; omega
        case rel => exact ⟨g, b, M, i + 1, rfl, (by have h2 := HI2.out; first | (congr 1; unfold wrap64; omega) | go_num), ⟨by have := HJ.out; omega, by have := HI1.out; omega, by have := HI2.out; omega⟩, HPn⟩
      · obtain ⟨re, hre⟩ : ∃ r, encR M = r := ⟨_, rfl⟩
        have HRe := Aside0.mk hre
        have HRd := Aside0.mk (show encRL (vl (kOf M)) = re from by rw [kOf_tbs, encRL_tbs]; exact hre)
        clear hre
        obtain ⟨es, en⟩ := re
        have hss : (es.toList == es.toList) = true := beq_self_eq_true _
        have hsn : (es.toList != es.toList) = false := by rw [bne, hss]; rfl
        go_upto_region 11 with (first
          | (go_at_call 11; refine (encode_walk _ wa g b M HPa.out.cat).mono ?_; rw [HRe.out]; rintro e w6 ⟨rfl, hb6⟩; have HP6 := Aside0.mk (HPa.out.below hb6); clear hb6)
          | (go_at_call 26; refine (dencode_walk _ w6 h (kOf M) HP6.out.rk).mono ?_; rw [HRd.out]; rintro e w7 ⟨rfl, hb7⟩; have HP7 := Aside0.mk (HP6.out.below hb7); clear hb7))
        clear HPa HP6 HAx HLa HRd
        by_cases hbig : 262144 < (encM M).length
        · obtain ⟨rfl, rfl⟩ : es = ⟨#[]⟩ ∧ en = 2 := by
            have h := HRe.out
            unfold encR at h
            rw [if_pos hbig] at h
            exact ⟨(Prod.mk.inj h).1.symm, (Prod.mk.inj h).2.symm⟩
          clear hbig
          go_wp2_with (go_at_call 8; refine (works_walk _).mono ?_; rintro e w8 ⟨rfl, hb8⟩; have HB8 := Aside0.mk (HP7.out.below hb8).be; clear hb8)
          go_ret
          exact ⟨rfl, HB8.out⟩
        · obtain ⟨rfl, rfl⟩ : es = str (encM M) ∧ en = 0 := by
            have h := HRe.out
            unfold encR at h
            rw [if_neg hbig] at h
            exact ⟨(Prod.mk.inj h).1.symm, (Prod.mk.inj h).2.symm⟩
          have HDe := Aside0.mk (enc_dec HP7.out.cat hbig)
          have hsl : (str (encM M)).size ≤ maxLen := by rw [str_size]; unfold maxLen; omega
          have HSl := Aside0.mk hsl
          clear hbig hsl
          go_upto_region 16 with (go_at_call 14; refine (dec_walk _ _ HSl.out).mono ?_; rw [HDe.out]; rintro e w8 ⟨⟨g2, b2, M2, rfl, hc8, ht8, hg8, hb8'⟩, hb8⟩; have HP8 := Aside0.mk (show PS (fun _ => True) W w8 g2 b2 h M2 (kOf M2) from by have hp := HP7.out.below hb8; exact ⟨hc8, by rw [kOf_same HP7.out.cat.named hc8.named ht8]; exact hp.rk, Nat.le_trans HP7.out.be.size hb8', hp.gh, hp.be⟩); clear hc8 ht8 hg8 hb8' hb8)
          have hf8 := heap_alloc_new w8 (.cells #[.int .i64 0, .int .i64 0] 43)
          have HF8 := Aside0.mk hf8
          have HPt := Aside0.mk (HP8.out.below (below_alloc (Below.refl w8.heap.size w8) (.cells #[.int .i64 0, .int .i64 0] 43)))
          clear hf8 HP8 hss hsn
          generalize w8.alloc (.cells #[.int .i64 0, .int .i64 0] 43) = w9 at *
          generalize w8.heap.size = p8 at *
          have f0 := (blk_cell HF8.out 0).trans (show _ = some (Value.int .i64 0) from rfl)
          have f1 := (blk_cell HF8.out 1).trans (show _ = some (Value.int .i64 0) from rfl)
          go_upto_region 33 with fail
          clear f0 f1 HF8
          obtain ⟨L, hL⟩ : ∃ L, tbs M2 = L := ⟨_, rfl⟩
          have HN := Aside0.mk (names_two _ g2 b2 h M2 HPt.out.cat (by rw [← kOf_tbs]; exact HPt.out.rk.rc))
          rw [hL] at HN
          clear hL
          go_wp2_with (first
            | (go_at_call 12; refine HN3.out.mono ?_; rintro e w23 ⟨rfl, hb23⟩; have HPn := Aside0.mk (HPt.out.below hb23); clear hb23)
            | (go_at_call 16; refine HN2.out.mono ?_; rintro e w22 ⟨B2, d2, rfl, -, hN3⟩; have HN3 := Aside0.mk hN3; clear hN3)
            | (go_at_call 13; refine HN.out.mono ?_; rintro e w21 ⟨A2, c2, rfl, -, hN2⟩; have HN2 := Aside0.mk hN2; clear hN2))
          go_roundg kq1
          case measure => have := HJ.out; omega
          case rel => exact ⟨g2, b2, M2, i + 1, rfl, (by have h2 := HI2.out; first | (congr 1; unfold wrap64; omega) | go_num), ⟨by have := HJ.out; omega, by have := HI1.out; omega, by have := HI2.out; omega⟩, HPn⟩
    · have hex : l.length ≤ i ∨ (i < l.length ∧ 100 ≤ i) := by omega
      have HB := Aside0.mk HP.out.be
      clear HJ hi
      rcases hex with hex | ⟨hex, hex2⟩
      · have hj : ¬ (i : Int) < (l.length : Int) := by omega
        clear hex
        go_wp2_with (go_at_call 8; refine (works_walk _).mono ?_; rintro e w9 ⟨rfl, hb9⟩; have HB9 := Aside0.mk (Go.Proofs.Ytjehbnhjaogfkaa.Sc.step HB.out hb9); clear hb9)
        go_ret
        exact ⟨rfl, HB9.out⟩
      · have hj : (i : Int) < (l.length : Int) := by omega
        have hj2 : ¬ (i : Int) < 100 := by omega
        clear hex hex2
        go_wp2_with (go_at_call 8; refine (works_walk _).mono ?_; rintro e w9 ⟨rfl, hb9⟩; have HB9 := Aside0.mk (Go.Proofs.Ytjehbnhjaogfkaa.Sc.step HB.out hb9); clear hb9)
        go_ret
        exact ⟨rfl, HB9.out⟩
end Go.Proofs.Ytjehbnhjaogfkaa.Sc
end
