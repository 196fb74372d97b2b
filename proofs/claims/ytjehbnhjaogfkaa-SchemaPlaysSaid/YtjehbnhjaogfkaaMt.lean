/- Mt: the texts Sc59, Sc60, Sc61, one behind the other. -/
import Derived.Test.YtjehbnhjaogfkaaMq
import Derived.Test.YtjehbnhjaogfkaaMp
import Derived.Test.YtjehbnhjaogfkaaSc39
import Derived.Test.YtjehbnhjaogfkaaSc42
section
namespace Go.Proofs.Ytjehbnhjaogfkaa.Sc
open Go.RowKit Go.Lib Go.Maps Go.WideAt Go.WideShapes Go.Proofs.YtjehbnhjaogfkaaW.PrintWords Go.Proofs.YtjehbnhjaogfkaaW.PrintLast Go.Proofs.YtjehbnhjaogfkaaW.PrintMore
open Go.Proofs.Ytjehbnhjaogfkaa
set_option linter.unusedVariables false
set_option linter.unusedSimpArgs false
def T15_12 : Bool × List (List Nat × List Nat) := (true, [([], []), ([], []), ([1], [1]), ([2], [2]), ([3], [3]), ([], []), ([5], [5]), ([4, 6], [4, 6]), ([0, 0, 1, 2, 3, 4, 5, 6, 7], [0]), ([8, 0, 1, 2, 3, 4, 5, 6, 7], [8]), ([9, 7, 7, 0, 1, 2, 3, 4, 5, 6, 7], [7, 9])])
theorem t15_12 : Go.Proofs.YtjehbnhjaogfkaaW.PrintLast.rtab .any (opsOf Try.f15 12) = T15_12 := by kernel_rfl
theorem b15_12 : waitsOk T15_12.2 [0, 0, 2, 6, 14, 0, 32, 126, 1, 257, 1023] = true := by kernel_rfl
/-- The document's catalogue at block h: its schemas, in order; all its rows lie behind it. -/
def IsRc (W : World) (h : Nat) (L : List Tb) : Prop := ∃ v, W.heap[h]? = some (.cells #[v] 50 (0, 0)) ∧ ktb.R 30 W (h + 1) (fun _ => True) v L
theorem IsRc.below {W W1 : World} {h : Nat} {L : List Tb} (k : IsRc W h L) (hb : Below W.heap.size W W1) : IsRc W1 h L := by
  obtain ⟨v, h1, h2⟩ := k
  exact ⟨v, blk_below h1 hb, Kd.R_below h2 hb⟩
/-- What the document's Decode gives. -/
def RDecPost (W : World) (r : Int × Option (List Tb)) (e : Ending) (W' : World) : Prop :=
  match r.2 with
  | none => e = .returned (.tuple #[.pointer none, .agg #[.int .i64 0, .int .i64 r.1]])
  | some l => ∃ h, e = .returned (.tuple #[.pointer (some ⟨h, 0, none⟩), .agg #[.int .i64 0, .int .i64 r.1]]) ∧ IsRc W' h l ∧ W.heap.size ≤ h
theorem ktb_M {W : World} {base : Nat} {ok : Nat → Prop} {t : Tb} {v1 v2 : Value} (h1 : kcol.R 32 W base ok v1 t.cols) (h2 : kix.R 67 W base ok v2 t.ixs) : ktb.M W base ok t [.string t.nm, v1, .int .i64 t.key, v2] :=
  ⟨[.string t.nm], [v1, .int .i64 t.key, v2], rfl, rfl, [v1], [.int .i64 t.key, v2], rfl, ⟨v1, rfl, h1⟩, [.int .i64 t.key], [v2], rfl, rfl, ⟨v2, rfl, h2⟩⟩
/-- What stands through the document's Decode. -/
structure DI (W w : World) (q n g h : Nat) (B : List UInt8) (s : RS) (v : Value) (L : List Tb) : Prop where
  fq : w.heap[q]? = some (.cells #[.int .i64 0, .int .i64 0] 43 (0, 0))
  fn : w.heap[n]? = some (.cells #[.int .i64 0, .int .i64 3] 43 (0, 0))
  at_ : At w g B s
  ch : w.heap[h]? = some (.cells #[v] 50 (0, 0))
  row : ktb.R 30 w (h + 1) (fun _ => True) v L
  bel : Below W.heap.size W w
theorem DI.call {W w w1 : World} {q n g h : Nat} {B : List UInt8} {s s1 : RS} {v : Value} {L : List Tb} (k : DI W w q n g h B s v L) (hq : q < g) (hn : n < g) (hg : g < h) (hW : W.heap.size ≤ g) (ha : At w1 g B s1) (hf : Fr (Only g) w w1) : DI W w1 q n g h B s1 v L :=
  ⟨(hf.block q (blk_lt k.fq) (by unfold Only; omega)).trans k.fq, (hf.block n (blk_lt k.fn) (by unfold Only; omega)).trans k.fn, ha, (hf.block h (blk_lt k.ch) (by unfold Only; omega)).trans k.ch, R_call k.row hf (by omega), hf.below k.bel fun x hx => by unfold Only at hx; omega⟩
theorem DI.below {W w w1 : World} {q n g h : Nat} {B : List UInt8} {s : RS} {v : Value} {L : List Tb} (k : DI W w q n g h B s v L) (hb : Below w.heap.size w w1) : DI W w1 q n g h B s v L :=
  ⟨blk_below k.fq hb, blk_below k.fn hb, k.at_.below hb, blk_below k.ch hb, Kd.R_below k.row hb, step k.bel hb⟩
theorem DI.app {W w w1 : World} {q n g h : Nat} {B : List UInt8} {s : RS} {v v' : Value} {L L' : List Tb} (k : DI W w q n g h B s v L) (hq : q < h) (hn : n < h) (hg : g < h) (hW : W.heap.size ≤ h) (hb : Below (h + 1) w w1) (hr : ktb.R 30 w1 (h + 1) (fun _ => True) v' L') : DI W (w1.setCell ⟨h, 0, none⟩ v') q n g h B s v' L' := by
  have hs : ∀ x, x < h → (w1.setCell ⟨h, 0, none⟩ v').heap[x]? = w.heap[x]? := fun x hx => (Below.heap_setCell w1 ⟨h, 0, none⟩ v' x (by simp; omega)).trans (hb.block x (by omega))
  refine ⟨(hs q hq).trans k.fq, (hs n hn).trans k.fn, ?_, blk_put ((hb.block h (Nat.lt_succ_self h)).trans k.ch) 0 v' rfl, R_put hr (Nat.lt_succ_self h) 0 v', ?_⟩
  · obtain ⟨a, h1, h2⟩ := k.at_
    exact ⟨a, ⟨(hs g hg).trans h1.1, h1.2⟩, h2⟩
  · exact below_set (k.bel.trans (hb.mono (by omega))) hW
theorem mTb {W : World} {h m lc lx ca cc : Nat} {t : Tb} {A C : Option Addr} {v : Value} (h1 : kcol.R 32 W m (fun _ => True) (.slice A lc ca) t.cols) (h3 : kix.R 67 W m (fun _ => True) (.slice C lx cc) t.ixs) (hv : ∀ k, v.ownBlock = some k → k < m) (hm : h + 1 ≤ m) :
    ktb.M W (h + 1) (fun k => m ≤ k ∧ some k ≠ v.ownBlock) t [.string t.nm, .slice A lc ca, .int .i64 t.key, .slice C lx cc] :=
  ktb_M (Kd.R_mono (Kd.R_lower (Kd.R_bound h1) hm) fun k hk => ⟨hk.2.1, fun e => by have := hv k e.symm; have := hk.2.1; omega⟩) (Kd.R_mono (Kd.R_lower (Kd.R_bound h3) hm) fun k hk => ⟨hk.2.1, fun e => by have := hv k e.symm; have := hk.2.1; omega⟩)
theorem may_walk' (W : World) (t : Tb) (A : Option Addr) (ca : Nat) (C : Option Addr) (cc lc lx : Nat) (h1 : t.cols.length = lc) (h2 : t.ixs.length = lx) {base : Nat} {ok ok' : Nat → Prop} (hA : kcol.R 32 W base ok (.slice A lc ca) t.cols) (hB : kix.R 67 W base ok' (.slice C lx cc) t.ixs) :
    Calls Try.prog 34 #[.agg #[.string t.nm, .slice A lc ca, .int .i64 t.key, .slice C lx cc]] W fun e w' => e = .returned (.bool (chk t)) ∧ Below W.heap.size W w' := by
  subst h1 h2
  obtain ⟨_, a1, a2⟩ := Kd.R_reads' hA
  obtain ⟨_, b1, b2⟩ := Kd.R_reads' hB
  exact may_walk W t A ca C cc a2 a1 b2 b1
theorem tb_alloc {w : World} {g : Nat} {v0 v1 v2 v3 : Value} (h : TbBox w g v0 v1 v2 v3) (o : Obj) : TbBox (w.alloc o) g v0 v1 v2 v3 := h.keep (below_alloc (Below.refl w.heap.size w) o) h.lt
theorem tb_grown {w w1 : World} {g : Nat} {v0 v1 v2 v3 : Value} {row : Option Nat} (h : TbBox w g v0 v1 v2 v3) (hg : w.grownBy w1 row) (hr : some g ≠ row) : TbBox w1 g v0 v1 v2 v3 :=
  h.fr (S := fun k => some k = row) ⟨hg.os, hg.tape, hg.output, hg.size, fun k hk hn => hg.block k hk hn⟩ hr
set_option maxRecDepth 100000 in
set_option maxHeartbeats 16000000 in
theorem refdecode_walk (W : World) (b : List UInt8) (hl : b.length ≤ 9223372036854775807) :
    Calls Try.prog 15 #[.string (str b)] W fun e W' => RDecPost W (decR b) e W' ∧ Below W.heap.size W W' := by
  obtain ⟨q, hq⟩ : ∃ q, W.heap.size = q := ⟨_, rfl⟩
  obtain ⟨R, hR⟩ : ∃ R, decR b = R := ⟨_, rfl⟩
  rw [hR]
  have hsz := str_size b
  have HR := Aside0.mk hR
  have HX := Aside0.mk (show (W.alloc (.cells #[.int .i64 0, .int .i64 0] 43)).heap[q]? = some (.cells #[.int .i64 0, .int .i64 0] 43 (0, 0)) from hq ▸ heap_alloc_new W _)
  have HB := Aside0.mk (below_alloc (Below.refl W.heap.size W) (.cells #[.int .i64 0, .int .i64 0] 43))
  have HS := Aside0.mk (show (W.alloc (.cells #[.int .i64 0, .int .i64 0] 43)).heap.size = q + 1 by show (W.heap.push _).size = _; rw [Array.size_push, hq])
  have HQ := Aside0.mk hq
  clear hR
  by_cases hb : 262144 < b.length
  · have hbi : (262144 : Int) < (b.length : Int) := by omega
    have c0 := (blk_cell HX.out 0).trans (show _ = some (Value.int .i64 0) from rfl)
    have c1 := (blk_cell HX.out 1).trans (show _ = some (Value.int .i64 0) from rfl)
    have f0 := blk_frozen HX.out 0
    have f1 := blk_frozen HX.out 1
    have hR2 : R = (2, none) := by rw [← HR.out]; unfold decR; rw [if_pos hb]
    clear HR HS
    go_enter Try.func15, Try.ntmps15
    go_upto_region 1 with fail
    clear hq
    generalize W.alloc (.cells #[.int .i64 0, .int .i64 0] 43) = w0 at *
    go_wp2_with fail
    have HZ := Aside0.mk (fault_set HX.out 2)
    have HBz := Aside0.mk (below_set (below_set HB.out (show W.heap.size ≤ q from Nat.le_of_eq HQ.out) (j := 0) (v := .int .i64 0)) (show W.heap.size ≤ q from Nat.le_of_eq HQ.out) (j := 1) (v := .int .i64 2))
    clear c0 c1 f0 f1
    generalize (w0.setCell ⟨q, 0, none⟩ (.int .i64 0)).setCell ⟨q, 1, none⟩ (.int .i64 2) = w9 at *
    have z0 := (blk_cell HZ.out 0).trans (show _ = some (Value.int .i64 0) from rfl)
    have z1 := (blk_cell HZ.out 1).trans (show _ = some (Value.int .i64 2) from rfl)
    refine bodyPost_ret (v := .tuple #[.pointer none, .agg #[.int .i64 0, .int .i64 2]]) (by first | (go_simp; done) | (simp [results, Try.f15, go_sem, z0, z1]; done) | (simp [results, Try.f15, go_sem, z0, z1]; rfl)) rfl ?_
    refine ⟨?_, HBz.out⟩
    rw [hR2]
    exact rfl
  · have hbi : ¬ (262144 : Int) < (b.length : Int) := by omega
    replace hl : b.length ≤ 1000000000 := by omega
    have hD : outD (decA (b.length + 1) b [] []) = R := by rw [← HR.out]; unfold decR; rw [if_neg hb]
    have HD := Aside0.mk hD
    clear hD HR hb
    go_enter Try.func15, Try.ntmps15
    go_upto_region 3 with fail
    clear hq
    generalize W.alloc (.cells #[.int .i64 0, .int .i64 0] 43) = w0 at *
    have hn : w0.heap.size = q + 1 := HS.out
    have HB1 := Aside0.mk (step HB.out (below_alloc (Below.refl w0.heap.size w0) (.cells #[.int .i64 0, .int .i64 3] 43)))
    have HX1 := Aside0.mk (blk_below HX.out (below_alloc (Below.refl w0.heap.size w0) (.cells #[.int .i64 0, .int .i64 3] 43)))
    have HN1 := Aside0.mk (show (w0.alloc (.cells #[.int .i64 0, .int .i64 3] 43)).heap[q + 1]? = some (.cells #[.int .i64 0, .int .i64 3] 43 (0, 0)) from hn ▸ heap_alloc_new w0 _)
    have HS1 := Aside0.mk (show (w0.alloc (.cells #[.int .i64 0, .int .i64 3] 43)).heap.size = q + 2 by rw [show (w0.alloc (.cells #[.int .i64 0, .int .i64 3] 43)).heap.size = w0.heap.size + 1 from Array.size_push _, hn])
    clear HB HX HS
    go_upto_region 4 with fail
    clear hn
    generalize w0.alloc (.cells #[.int .i64 0, .int .i64 3] 43) = w1 at *
    have hn : w1.heap.size = q + 2 := HS1.out
    have hal := below_alloc (Below.refl w1.heap.size w1) (.cells #[.string (str b), .int .i64 0, .bool false] 84)
    have HB2 := Aside0.mk (step HB1.out hal)
    have HX2 := Aside0.mk (blk_below HX1.out hal)
    have HN2 := Aside0.mk (blk_below HN1.out hal)
    have HA2 := Aside0.mk (show At (w1.alloc (.cells #[.string (str b), .int .i64 0, .bool false] 84)) (q + 2) b ⟨b, false⟩ from ⟨0, ⟨hn ▸ heap_alloc_new w1 _, Nat.zero_le _, hl⟩, fun _ => rfl⟩)
    have HS2 := Aside0.mk (show (w1.alloc (.cells #[.string (str b), .int .i64 0, .bool false] 84)).heap.size = q + 3 by rw [show (w1.alloc (.cells #[.string (str b), .int .i64 0, .bool false] 84)).heap.size = w1.heap.size + 1 from Array.size_push _, hn])
    clear HB1 HX1 HN1 HS1 hal
    go_upto_region 5 with fail
    clear hn
    generalize w1.alloc (.cells #[.string (str b), .int .i64 0, .bool false] 84) = w2 at *
    have hn : w2.heap.size = q + 3 := HS2.out
    have hal := below_alloc (Below.refl w2.heap.size w2) (.cells #[.slice none 0 0] 50)
    have HI := Aside0.mk (show DI W (w2.alloc (.cells #[.slice none 0 0] 50)) q (q + 1) (q + 2) (q + 3) b ⟨b, false⟩ (.slice none 0 0) [] from
      ⟨blk_below HX2.out hal, blk_below HN2.out hal, HA2.out.below hal, hn ▸ heap_alloc_new w2 _, Kd.R_nil _ _ _ _ _, step HB2.out hal⟩)
    clear HB2 HX2 HN2 HS2 HA2 hal
    go_upto_region 6 with fail
    clear hn
    generalize w2.alloc (.cells #[.slice none 0 0] 50) = w3 at *
    have HWq := HQ
    obtain ⟨n, hnq⟩ : ∃ n, q + 1 = n := ⟨_, rfl⟩
    obtain ⟨g, hgq⟩ : ∃ g, q + 2 = g := ⟨_, rfl⟩
    obtain ⟨h, hhq⟩ : ∃ h, q + 3 = h := ⟨_, rfl⟩
    rw [hnq, hgq, hhq] at HI
    have hqg : q < g := by omega
    have hng : n < g := by omega
    have hgh : g < h := by omega
    have hWg : W.heap.size ≤ g := by have := HQ.out; omega
    have hWh : W.heap.size ≤ h := by omega
    (try rw [hnq]); (try rw [hgq]); (try rw [hhq])
    clear hnq hgq hhq HWq
    go_wp2_with fail
    go_loopg [7] (b.length + 2) (fun kq v7 w' => ∃ (rest last : List UInt8) (L : List Tb) (v : Value), v7 = .string (str last) ∧ Aside0 (rest.length + 2 ≤ kq) ∧ Aside0 (∃ k, rest.length < k ∧ outD (decA k rest last L) = R) ∧ Aside0 (DI W w' q n g h b ⟨rest, false⟩ v L))
    case atStart => exact ⟨b, [], [], _, rfl, ⟨Nat.le_refl _⟩, ⟨b.length + 1, by omega, HD.out⟩, HI⟩
    case round =>
      clear HI HD
      obtain ⟨rest, last, L, v, rfl, HJ, HD, HI⟩ := hrel
      obtain ⟨k, hk, hdec⟩ := HD.out
      obtain ⟨k1, rfl⟩ : ∃ k1, k = k1 + 1 := ⟨k - 1, by omega⟩
      rw [decA] at hdec
      obtain ⟨a, hrr, hra⟩ := HI.out.at_
      obtain rfl : rest = b.drop a := hra rfl
      have x1 := hrr.cells.2.1
      have hal := hrr.2.1
      clear hrr hra HD
      by_cases hab : a < b.length
      · have habi : (a : Int) < (b.length : Int) := by omega
        rw [if_neg (by intro e; have := congrArg List.length e; rw [List.length_drop] at this; simp at this; omega)] at hdec
        obtain ⟨rest, hrest⟩ : ∃ rest, b.drop a = rest := ⟨_, rfl⟩
        rw [hrest] at hdec HJ HI hk
        have hrl : rest.length ≤ b.length := by rw [← hrest, List.length_drop]; omega
        obtain ⟨kq1, rfl⟩ : ∃ kq1, gk = kq1 + 1 := ⟨gk - 1, by have := HJ.out; omega⟩
        have HDc := Aside0.mk hdec
        clear hdec hrest
        go_wp2_with fail
        refine (rschema_walk wr g b ⟨rest, false⟩ HI.out.at_).mono ?_
        obtain ⟨t, ht⟩ : ∃ t, (rT rest).1 = t := ⟨_, rfl⟩
        obtain ⟨⟨b2, bad2⟩, hs2⟩ : ∃ s2, (rT rest).2 = s2 := ⟨_, rfl⟩
        have hok := rtab_ok (s := ⟨rest, false⟩)
        rw [show rtab ⟨rest, false⟩ = rT rest from rfl] at hok ⊢
        have hd := HDc.out
        rw [ht, hs2] at hd ⊢
        rw [hs2] at hok
        simp only at hok hd
        have HOk := Aside0.mk hok
        have HDd := Aside0.mk hd
        clear HDc hok hd ht hs2 x1
        rintro e w2 ⟨v2, rfl, ⟨u1, u3, rfl, hR1, hR3⟩, ha2, hf2⟩
        have HI2 := Aside0.mk (HI.out.call hqg hng hgh hWg ha2 hf2)
        obtain ⟨A, ca, rfl⟩ := Kd.R_slice hR1
        obtain ⟨C, cc, rfl⟩ := Kd.R_slice hR3
        have hlow : h + 1 ≤ wr.heap.size := blk_lt HI.out.ch
        have HL := Aside0.mk hlow
        have HVo := Aside0.mk (Kd.R_lt HI.out.row)
        have HR1 := Aside0.mk hR1
        have HR3 := Aside0.mk hR3
        have HF2 := Aside0.mk hf2.size
        obtain ⟨lc, hlc⟩ : ∃ lc, t.cols.length = lc := ⟨_, rfl⟩
        obtain ⟨lx, hlx⟩ : ∃ lx, t.ixs.length = lx := ⟨_, rfl⟩
        rw [hlc] at HR1 ⊢
        rw [hlx] at HR3 ⊢
        have HLc := Aside0.mk hlc
        have HLx := Aside0.mk hlx
        clear hR1 hR3 ha2 hf2 hlow HI hlc hlx
        have hal2 := below_alloc (Below.refl w2.heap.size w2) (.cells #[.string t.nm, .slice A lc ca, .int .i64 t.key, .slice C lx cc] 30)
        have HI3 := Aside0.mk (HI2.out.below hal2)
        have HRa := Aside0.mk (Kd.R_below HR1.out hal2)
        have HRb := Aside0.mk (Kd.R_below HR3.out hal2)
        obtain ⟨p, hp⟩ : ∃ p, w2.heap.size = p := ⟨_, rfl⟩
        have HT3 := Aside0.mk (show TbBox (w2.alloc (.cells #[.string t.nm, .slice A lc ca, .int .i64 t.key, .slice C lx cc] 30)) p (.string t.nm) (.slice A lc ca) (.int .i64 t.key) (.slice C lx cc) from hp ▸ tbBox_made w2 _ _ _ _ _)
        have HVp := Aside0.mk (show some p ≠ v.ownBlock from fun e => by have := HVo.out p e.symm; have := HF2.out; omega)
        have hph : h < p := by have := HL.out; have := HF2.out; omega
        clear hal2 HI2 HR1 HR3
        go_upto_region 9 with fail
        clear hp
        generalize w2.alloc (.cells #[.string t.nm, .slice A lc ca, .int .i64 t.key, .slice C lx cc] 30) = w3 at *
        obtain ⟨o, ho⟩ : ∃ o, decide (bad2 = true ∨ bytesBefore last t.nm.data.toList = false ∨ chk t = false ∨ 4096 ≤ L.length) = o := ⟨_, rfl⟩
        have HO := Aside0.mk ho
        clear ho
        go_cut [50] (fun v50 wc => v50 = .bool o ∧ Aside0 (Below w3.heap.size w3 wc))
        case first =>
          obtain ⟨a2, hrr2, -⟩ := HI3.out.at_
          have x2 := hrr2.cells.2.2.1
          clear hrr2
          cases bad2 with
          | true =>
            obtain rfl : o = true := by rw [← HO.out]; simp
            go_wp2_with fail
            go_meet
            exact ⟨rfl, ⟨Below.refl _ _⟩⟩
          | false =>
            have t0 := HT3.out.c0
            have t1 := HT3.out.c1
            have t2 := HT3.out.c2
            have t3 := HT3.out.c3
            go_wp2_with fail
            clear x2
            refine (may_walk' w3 t A ca C cc lc lx HLc.out HLx.out HRa.out HRb.out).mono ?_
            obtain ⟨ck, hck⟩ : ∃ ck, chk t = ck := ⟨_, rfl⟩
            rw [hck]
            rintro e w4 ⟨rfl, hb4⟩
            have HCk := Aside0.mk hck
            have HB4 := Aside0.mk hb4
            have HI4 := Aside0.mk (HI3.out.below hb4)
            have HT4 := Aside0.mk (HT3.out.keep hb4 HT3.out.lt)
            clear t0 t1 t2 t3 hb4 hck
            cases ck with
            | false =>
              obtain rfl : o = true := by rw [← HO.out, HCk.out]; simp
              go_wp2_with fail
              go_meet
              exact ⟨rfl, HB4⟩
            | true =>
              have t0 := HT4.out.c0
              have ebl : Op.bytesLess t.nm.toList (str last).toList = bytesBefore t.nm.data.toList last := by rw [ByteArray.toList_eq, ByteArray.toList_eq, FL.before_eq]; rfl
              by_cases hlt : bytesBefore last t.nm.data.toList = true
              · have h1 : Op.bytesLess t.nm.toList (str last).toList = false := by
                  rw [ebl]
                  cases hb : bytesBefore t.nm.data.toList last with
                  | false => rfl
                  | true => have := bytes_trans _ _ _ hlt hb; rw [bytes_irrefl] at this; cases this
                have h2 : ¬ t.nm.toList = (str last).toList := fun e => by
                  rw [ByteArray.toList_eq, ByteArray.toList_eq, str_list] at e
                  rw [e, bytes_irrefl] at hlt
                  cases hlt
                have h2b : (t.nm.toList == (str last).toList) = false := beq_eq_false_iff_ne.mpr h2
                have HLt := Aside0.mk hlt
                have y0 := (blk_cell HI4.out.ch 0).trans (show _ = some v from rfl)
                obtain ⟨Av, cv, rfl⟩ := Kd.R_slice HI4.out.row
                clear ebl hlt h2
                by_cases h4 : 4096 ≤ L.length
                · have h4i : (4096 : Int) ≤ (L.length : Int) := by omega
                  obtain rfl : o = true := by rw [← HO.out]; simp [h4]
                  clear h4
                  go_wp2_with fail
                  go_meet
                  exact ⟨rfl, HB4⟩
                · have h4i : ¬ (4096 : Int) ≤ (L.length : Int) := by omega
                  obtain rfl : o = false := by rw [← HO.out, HCk.out, HLt.out]; simp; omega
                  clear h4
                  go_wp2_with fail
                  go_meet
                  exact ⟨by first | rfl | exact congrArg Value.bool (decide_eq_false (by omega)), HB4⟩
              · have hlt' : bytesBefore last t.nm.data.toList = false := by cases h : bytesBefore last t.nm.data.toList with | true => exact absurd h hlt | false => rfl
                obtain rfl : o = true := by rw [← HO.out, hlt']; simp
                by_cases he : t.nm.data.toList = last
                · have h1 : Op.bytesLess t.nm.toList (str last).toList = false := by rw [ebl, he, bytes_irrefl]
                  have h2 : t.nm.toList = (str last).toList := by rw [ByteArray.toList_eq, ByteArray.toList_eq, he]; rfl
                  have h2b : (t.nm.toList == (str last).toList) = true := beq_iff_eq.mpr h2
                  clear ebl he hlt hlt' h2
                  go_wp2_with fail
                  go_meet
                  exact ⟨rfl, HB4⟩
                · have h1 : Op.bytesLess t.nm.toList (str last).toList = true := by
                    rw [ebl]
                    rcases bytes_total t.nm.data.toList last he with h | h
                    · exact h
                    · rw [hlt'] at h; cases h
                  clear ebl he hlt hlt'
                  go_wp2_with fail
                  go_meet
                  exact ⟨rfl, HB4⟩
        case rest =>
        obtain ⟨rfl, HBc⟩ := hcut
        have HI4 := Aside0.mk (HI3.out.below HBc.out)
        have HT4 := Aside0.mk (HT3.out.keep HBc.out HT3.out.lt)
        have HRc := Aside0.mk (Kd.R_below HRa.out HBc.out)
        have HRd := Aside0.mk (Kd.R_below HRb.out HBc.out)
        clear HI3 HT3 HRa HRb HBc
        cases o with
        | true =>
          have HRN := Aside0.mk (show outD none = R from by rw [← HDd.out, if_pos (of_decide_eq_true HO.out)])
          have c0 := (blk_cell HI4.out.fq 0).trans (show _ = some (Value.int .i64 0) from rfl)
          have c1 := (blk_cell HI4.out.fq 1).trans (show _ = some (Value.int .i64 0) from rfl)
          have f0 := blk_frozen HI4.out.fq 0
          have f1 := blk_frozen HI4.out.fq 1
          have d0 := (blk_cell HI4.out.fn 0).trans (show _ = some (Value.int .i64 0) from rfl)
          have d1 := (blk_cell HI4.out.fn 1).trans (show _ = some (Value.int .i64 3) from rfl)
          go_upto_region 10 with fail
          go_region
          have HZz := Aside0.mk (fault_set (w := wc) HI4.out.fq 3)
          have HBz := Aside0.mk (below_set (below_set HI4.out.bel (show W.heap.size ≤ q from Nat.le_of_eq HQ.out) (j := 0) (v := .int .i64 0)) (show W.heap.size ≤ q from Nat.le_of_eq HQ.out) (j := 1) (v := .int .i64 3))
          clear c0 c1 f0 f1 d0 d1
          have z0 := (blk_cell HZz.out 0).trans (show _ = some (Value.int .i64 0) from rfl)
          have z1 := (blk_cell HZz.out 1).trans (show _ = some (Value.int .i64 3) from rfl)
          go_wp2_with fail
          generalize (wc.setCell ⟨q, 0, none⟩ (.int .i64 0)).setCell ⟨q, 1, none⟩ (.int .i64 3) = w9 at *
          refine bodyPost_ret (v := .tuple #[.pointer none, .agg #[.int .i64 0, .int .i64 3]]) (by first | (go_simp; done) | (simp [results, Try.f15, go_sem, z0, z1]; done) | (simp [results, Try.f15, go_sem, z0, z1]; rfl)) rfl ?_
          refine ⟨?_, below_drew HBz.out⟩
          rw [← HRN.out]
          exact rfl
        | false =>
          have hno := of_decide_eq_false HO.out
          have hnx : outD (decA k1 b2 t.nm.data.toList (L ++ [t])) = R := by rw [← HDd.out, if_neg hno]
          have hL : L.length < 4096 := by
            rcases Nat.lt_or_ge L.length 4096 with h | h
            · exact h
            · exact absurd (.inr (.inr (.inr h))) hno
          have hb2 : bad2 = false := by
            cases bad2 with
            | false => rfl
            | true => exact absurd (.inl rfl) hno
          subst hb2
          have HNx := Aside0.mk hnx
          have HLL := Aside0.mk hL
          have HLen := Aside0.mk (show b2.length + 8 ≤ rest.length from (HOk.out (by first | rfl | trivial)).2)
          have t0 := HT4.out.c0
          clear hno hnx hL HO HDd HOk
          go_upto_region 12 with fail
          clear t0
          have HI5 := Aside0.mk (HI4.out.below (below_drew (Below.refl _ _)))
          have HT5 := Aside0.mk (HT4.out.keep (below_drew (Below.refl wc.heap.size wc)) HT4.out.lt)
          have HRe := Aside0.mk (Kd.R_drew HRc.out)
          have HRf := Aside0.mk (Kd.R_drew HRd.out)
          refine start_ (n := 11) (S := fun w' => w'.cell? ⟨h, 0, none⟩ = some v ∧ w'.cell? ⟨p, 0, none⟩ = some (.string t.nm) ∧ w'.cell? ⟨p, 1, none⟩ = some (.slice A lc ca) ∧ w'.cell? ⟨p, 2, none⟩ = some (.int .i64 t.key) ∧ w'.cell? ⟨p, 3, none⟩ = some (.slice C lx cc)) (ds := [10]) #[false, false, false, false, false, false, false, false, false, false, false] (by kernel_rfl) rfl rfl ⟨(blk_cell HI5.out.ch 0).trans rfl, HT5.out.c0, HT5.out.c1, HT5.out.c2, HT5.out.c3⟩ (fun hHeld => ?_)
          refine with_tabW t15_12 b15_12 (fun HT_ HW_ => ?_)
          clear HI4 HT4 HRc HRd
          generalize wc.drew = w5 at HI5 HT5 HRe HRf hHeld ⊢
          refine pure_ (i := 0) (N := some 54) (v := ?_) (a' := ?_) #[true, false, false, false, false, false, false, false, false, false, false] rfl rfl (any_of HT_.out (by kernel_rfl)) (fun _ _ _ h => h) (Or.inl ⟨by rfl, ?_⟩) ?_ ?_
          rotate_left
          · intro w'
            go_simp
            with_reducible rfl
          rotate_left
          · simp only [Act.put, List.setIfInBounds_toArray, List.set_cons_zero, List.set_cons_succ, i64_w, i32_w]
            rfl
          refine pure_ (i := 1) (N := some 55) (v := ?_) (a' := ?_) #[true, true, false, false, false, false, false, false, false, false, false] rfl rfl (any_of HT_.out (by kernel_rfl)) (fun _ _ _ h => h) (Or.inl ⟨by rfl, ?_⟩) ?_ ?_
          rotate_left
          · intro w'
            go_simp
            with_reducible rfl
          rotate_left
          · simp only [Act.put, List.setIfInBounds_toArray, List.set_cons_zero, List.set_cons_succ, i64_w, i32_w]
            rfl
          refine pure_ (i := 2) (N := some 56) (v := ?_) (a' := ?_) #[true, true, true, false, false, false, false, false, false, false, false] rfl rfl (any_of HT_.out (by kernel_rfl)) (fun _ _ _ h => h) (Or.inl ⟨by rfl, ?_⟩) ?_ ?_
          rotate_left
          · intro w'
            go_simp
            with_reducible rfl
          rotate_left
          · simp only [Act.put, List.setIfInBounds_toArray, List.set_cons_zero, List.set_cons_succ, i64_w, i32_w]
            rfl
          refine pure_ (i := 3) (N := some 57) (v := ?_) (a' := ?_) #[true, true, true, true, false, false, false, false, false, false, false] rfl rfl (any_of HT_.out (by kernel_rfl)) (fun _ _ _ h => h) (Or.inl ⟨by rfl, ?_⟩) ?_ ?_
          rotate_left
          · intro w'
            go_simp
            with_reducible rfl
          rotate_left
          · simp only [Act.put, List.setIfInBounds_toArray, List.set_cons_zero, List.set_cons_succ, i64_w, i32_w]
            rfl
          refine take_ (i := 4) (N := some 58) (v := ?_) (a' := ?_) #[true, true, true, true, true, false, false, false, false, false, false] rfl rfl (take_ofW HT_.out HW_.out (by kernel_rfl)) (fun _ _ _ h => h) (Or.inl ⟨by rfl, ?_⟩) hHeld ?_ ?_
          rotate_left
          · rintro w' ⟨s0, s1, s2, s3, s4⟩
            go_simp
            with_reducible rfl
          rotate_left
          · simp only [Act.put, List.setIfInBounds_toArray, List.set_cons_zero, List.set_cons_succ, i64_w, i32_w]
            rfl
          refine take_ (i := 5) (N := some 59) (v := ?_) (a' := ?_) #[true, true, true, true, true, true, false, false, false, false, false] rfl rfl (take_ofW HT_.out HW_.out (by kernel_rfl)) (fun _ _ _ h => h) (Or.inl ⟨by rfl, ?_⟩) hHeld ?_ ?_
          rotate_left
          · rintro w' ⟨s0, s1, s2, s3, s4⟩
            go_simp
            with_reducible rfl
          rotate_left
          · simp only [Act.put, List.setIfInBounds_toArray, List.set_cons_zero, List.set_cons_succ, i64_w, i32_w]
            rfl
          refine one_ (i := 6) (N := some 60) #[true, true, true, true, true, true, true, false, false, false, false] rfl rfl (one_of HT_.out (by kernel_rfl)) (by decide) (fun K hK => ?_)
          refine value_ (w1 := ?_) (v := ?_) (by rfl) rfl ?_ ?_
          rotate_left 2
          · go_simp
            constructor
            · rfl
            · rfl
          refine hK.out _ _ ⟨(blk_cell (blk_alloc HI5.out.ch _) 0).trans rfl, (tb_alloc HT5.out _).c0, (tb_alloc HT5.out _).c1, (tb_alloc HT5.out _).c2, (tb_alloc HT5.out _).c3⟩ (fun hHeld => ?_)
          clear hK K
          refine norm_ (a' := ?_) ?_ ?_
          rotate_left
          · show Act.put _ (some 60) _ = _
            simp only [Act.put, List.setIfInBounds_toArray, List.set_cons_zero, List.set_cons_succ, i64_w, i32_w]
            rfl
          refine one_ (i := 7) (N := some 61) #[true, true, true, true, true, true, true, true, false, false, false] rfl rfl (one_of HT_.out (by kernel_rfl)) (by decide) (fun K hK => ?_)
          refine Kd.R_append_step ktb (w0 := w5) (h + 1) (by rfl) (.tmp 58) (.tmp 60) 22 30 (.agg #[.string ⟨#[]⟩, .slice none 0 0, .int .i64 0, .slice none 0 0]) 72 rfl Try.underlying22 info30 rfl (show 0 < 4 from by decide) (by omega) v L t [.string t.nm, .slice A lc ca, .int .i64 t.key, .slice C lx cc] (fun _ => True) (fun k => wr.heap.size ≤ k ∧ some k ≠ v.ownBlock) rfl rfl ?aP (fun _ hk => ⟨trivial, hk.2⟩) (fun _ _ => trivial) ?aO (Below.refl _ _) ?aS ?aL ?_
          case aP => exact mTb HRe.out HRf.out HVo.out HL.out
          case aO => exact HI5.out.row
          case aS => exact blk_lt HI5.out.ch
          case aL => have := HLL.out; omega
          intro v4 w8 hr8 hb8 hg8 hat8
          obtain ⟨A4, c4, rfl⟩ := Kd.R_slice hr8
          obtain ⟨n4, hn4⟩ : ∃ n4, (L ++ [t]).length = n4 := ⟨_, rfl⟩
          rw [hn4] at hr8 ⊢
          clear hn4
          have HI6 := Aside0.mk (HI5.out.app (by omega) (by omega) hgh hWh hb8 hr8)
          have hch8 := (hb8.block h (Nat.lt_succ_self h)).trans HI5.out.ch
          have HT8 := Aside0.mk (tb_grown HT5.out hg8 HVp.out)
          have f1 := blk_frozen hch8 0
          clear hr8 hb8 hg8 hat8
          refine hK.out _ _ ⟨(blk_cell hch8 0).trans rfl, HT8.out.c0, HT8.out.c1, HT8.out.c2, HT8.out.c3⟩ (fun hHeld => ?_)
          clear hK K
          refine norm_ (a' := ?_) ?_ ?_
          rotate_left
          · show Act.put _ (some 61) _ = _
            simp only [Act.put, List.setIfInBounds_toArray, List.set_cons_zero, List.set_cons_succ, i64_w, i32_w]
            rfl
          refine pure_ (i := 8) (N := some 62) (v := ?_) (a' := ?_) #[true, true, true, true, true, true, true, true, true, false, false] rfl rfl (any_of HT_.out (by kernel_rfl)) (fun _ _ _ h => h) (Or.inl ⟨by rfl, ?_⟩) ?_ ?_
          rotate_left
          · intro w'
            go_simp
            with_reducible rfl
          rotate_left
          · simp only [Act.put, List.setIfInBounds_toArray, List.set_cons_zero, List.set_cons_succ, i64_w, i32_w]
            rfl
          refine pure_ (i := 9) (N := some 63) (v := ?_) (a' := ?_) #[true, true, true, true, true, true, true, true, true, true, false] rfl rfl (any_of HT_.out (by kernel_rfl)) (fun _ _ _ h => h) (Or.inl ⟨by rfl, ?_⟩) ?_ ?_
          rotate_left
          · intro w'
            go_simp
            with_reducible rfl
          rotate_left
          · simp only [Act.put, List.setIfInBounds_toArray, List.set_cons_zero, List.set_cons_succ, i64_w, i32_w]
            rfl
          have c1 := (blk_cell hch8 0).trans (show _ = some v from rfl)
          refine last_ (i := 10) (N := none) #[true, true, true, true, true, true, true, true, true, true, true] rfl rfl (one_of HT_.out (by kernel_rfl)) (by decide) (fun K hK => ?_)
          refine skip_ (w1 := ?_) (by rfl) rfl ?_ ?_
          rotate_left
          · go_simp
            rfl
          refine hK.out _ _ ?_
          clear hK K
          refine done_ (done_of HT_.out (by kernel_rfl)) ?_
          clear c1 f1 hch8 HT8
          go_wp2_with fail
          go_roundg kq1
          case measure => omega
          case rel => exact ⟨b2, t.nm.data.toList, L ++ [t], _, rfl, ⟨by have := HLen.out; have := HJ.out; omega⟩, ⟨k1, by have := HLen.out; omega, HNx.out⟩, HI6⟩
      · have habi : ¬ (a : Int) < (b.length : Int) := by omega
        rw [if_pos (List.drop_of_length_le (by omega))] at hdec
        have HDe := Aside0.mk hdec
        clear hdec
        have c0 := (blk_cell HI.out.fq 0).trans (show _ = some (Value.int .i64 0) from rfl)
        have c1 := (blk_cell HI.out.fq 1).trans (show _ = some (Value.int .i64 0) from rfl)
        have f0 := blk_frozen HI.out.fq 0
        have f1 := blk_frozen HI.out.fq 1
        go_wp2_with fail
        have HZz := Aside0.mk (fault_set (w := wr) HI.out.fq 0)
        have HBz := Aside0.mk (below_set (below_set HI.out.bel (show W.heap.size ≤ q from Nat.le_of_eq HQ.out) (j := 0) (v := .int .i64 0)) (show W.heap.size ≤ q from Nat.le_of_eq HQ.out) (j := 1) (v := .int .i64 0))
        have HCz := Aside0.mk (show IsRc ((wr.setCell ⟨q, 0, none⟩ (.int .i64 0)).setCell ⟨q, 1, none⟩ (.int .i64 0)) h L from ⟨v, (Below.heap_setCell _ ⟨q, 1, none⟩ _ h (by simp; omega)).trans ((Below.heap_setCell _ ⟨q, 0, none⟩ _ h (by simp; omega)).trans HI.out.ch), R_put (R_put HI.out.row (by omega) 0 _) (by omega) 1 _⟩)
        clear c0 c1 f0 f1
        generalize (wr.setCell ⟨q, 0, none⟩ (.int .i64 0)).setCell ⟨q, 1, none⟩ (.int .i64 0) = w9 at *
        have z0 := (blk_cell HZz.out 0).trans (show _ = some (Value.int .i64 0) from rfl)
        have z1 := (blk_cell HZz.out 1).trans (show _ = some (Value.int .i64 0) from rfl)
        refine bodyPost_ret (v := .tuple #[.pointer (some ⟨h, 0, none⟩), .agg #[.int .i64 0, .int .i64 0]]) (by first | (go_simp; done) | (simp [results, Try.f15, go_sem, z0, z1]; done) | (simp [results, Try.f15, go_sem, z0, z1]; rfl)) rfl ?_
        refine ⟨?_, HBz.out⟩
        rw [← HDe.out]
        exact ⟨h, rfl, HCz.out, hWh⟩
end Go.Proofs.Ytjehbnhjaogfkaa.Sc
end

section
namespace Go.Proofs.Ytjehbnhjaogfkaa.Sc
open Go.RowKit Go.Lib Go.Maps Go.WideAt Go.WideShapes Go.Proofs.YtjehbnhjaogfkaaW.PrintWords Go.Proofs.YtjehbnhjaogfkaaW.PrintLast Go.Proofs.YtjehbnhjaogfkaaW.PrintMore
open Go.Proofs.Ytjehbnhjaogfkaa
set_option linter.unusedVariables false
set_option linter.unusedSimpArgs false
theorem info9 : (Try.prog.info? 9).map (fun i => (i.zero, i.size, i.bytes)) = some (some (.string ⟨#[]⟩), 1, 16) := by kernel_rfl
set_option maxRecDepth 100000 in
set_option maxHeartbeats 8000000 in
/-- The document's Names. -/
theorem refnames_walk (W : World) (h : Nat) (L : List Tb) (k : IsRc W h L) (hL : L.length ≤ 4096) :
    Calls Try.prog 16 #[.pointer (some ⟨h, 0, none⟩)] W fun e W' => ∃ A c, e = .returned (.slice A L.length c) ∧ SAt W' A (L.map (·.nm)) ∧ Below W.heap.size W W' := by
  obtain ⟨v, hc, hr⟩ := k
  obtain ⟨A, ca, rfl, hca, hC⟩ := Kd.R_reads hr
  have HC := Aside0.mk hC
  have HH := Aside0.mk hc
  clear hC hr hc
  have c0 := (blk_cell HH.out 0).trans (show _ = some (Value.slice A L.length ca) from rfl)
  go_enter Try.func16, Try.ntmps16
  go_wp2_with fail
  clear c0
  go_loopg [3, 4] (L.length + 1) (fun kq v3 v4 w' => ∃ (i : Nat), v4 = .int .i64 (i : Int) ∧ Aside0 (i + kq = L.length + 1 ∧ i ≤ L.length) ∧ Aside0 (Kd.string.R 9 w' W.heap.size (fun _ => True) v3 ((L.take i).map (·.nm))) ∧ Aside0 (Below W.heap.size W w'))
  case atStart => exact ⟨0, rfl, ⟨by omega, Nat.zero_le _⟩, ⟨Kd.R_nil _ _ _ _ _⟩, ⟨Below.refl _ _⟩⟩
  case round =>
    obtain ⟨i, rfl, HJ, HR, HB⟩ := hrel
    have c0 := (blk_cell (blk_below HH.out HB.out) 0).trans (show _ = some (Value.slice A L.length ca) from rfl)
    by_cases hi : i < L.length
    · have hji : (i : Int) < (L.length : Int) := by omega
      obtain ⟨kq1, rfl⟩ : ∃ kq1, gk = kq1 + 1 := ⟨gk - 1, by have := HJ.out.1; omega⟩
      obtain ⟨ad, B, cb, D, cd, rfl, x0, -, -, -, -, -, -, -⟩ := tb_at (Kd.C_below HC.out HB.out) i hi
      obtain ⟨nm, hnm⟩ : ∃ nm, (L[i]).nm = nm := ⟨_, rfl⟩
      rw [hnm] at x0
      have htk : (L.take (i + 1)).map (·.nm) = (L.take i).map (·.nm) ++ [nm] := by rw [List.take_succ_eq_append_getElem hi, List.map_append, ← hnm]; rfl
      have hln : ((L.take i).map (·.nm)).length = i := by rw [List.length_map, List.length_take]; omega
      obtain ⟨acc, hacc⟩ : ∃ acc, (L.take i).map (·.nm) = acc := ⟨_, rfl⟩
      rw [hacc] at htk hln HR
      have HT := Aside0.mk htk
      have HLn := Aside0.mk hln
      have HHi := Aside0.mk hi
      have hwr := HB.out.size
      clear hnm htk hln hacc hi
      go_wp2_with ((with_reducible refine gate_builtin (b := .append) (xs := #[.tmp 14, .tmp 23]) rfl ?_); at_builtin; refine Kd.R_append Kd.string (w0 := W) W.heap.size rfl (.tmp 14) (.tmp 23) 39 9 (.string ⟨#[]⟩) 16 rfl Try.underlying39 info9 rfl (show 0 < 1 from by decide) (by decide) _ acc nm [.string nm] (fun _ => True) (fun _ => False) rfl rfl rfl (fun _ h => h.elim) (fun _ _ => trivial) HR.out HB.out hwr (by have := HLn.out; omega) ?_; intro v1 w6 hr6 hb6 hg6 hat6; have HR6 := Aside0.mk hr6; have HB6 := Aside0.mk hb6; clear hr6 hb6 hg6 hat6)
      go_roundg kq1
      case measure => have := HJ.out; omega
      case rel => exact ⟨i + 1, by go_num, ⟨by have := HJ.out; omega, by have := HHi.out; omega⟩, ⟨by rw [HT.out]; exact HR6.out⟩, HB6⟩
    · have hji : ¬ (i : Int) < (L.length : Int) := by omega
      have hr := HR.out
      rw [List.take_of_length_le (by omega)] at hr
      obtain ⟨Ao, co, rfl, hco, hC⟩ := Kd.R_reads hr
      have hS : SAt wr Ao (L.map (·.nm)) := by
        refine ⟨by rw [List.length_map]; unfold maxLen; omega, fun j hj => ?_⟩
        obtain ⟨ad, e, hx⟩ := Kd.at_string hC (j : Int) (by omega) (by omega)
        refine ⟨ad, e, ?_⟩
        rw [Int.toNat_natCast] at hx
        rw [hx]
        congr 2
        show rdOf ByteArray.empty _ _ = _
        unfold rdOf
        have hj' : j < L.length := by rw [List.length_map] at hj; exact hj
        simp [List.getD]
        rw [List.getElem?_eq_getElem hj']
        rfl
      rw [List.length_map]
      have HSs := Aside0.mk hS
      clear hS hC hr hco HR
      go_wp2_with fail
      go_ret
      exact ⟨Ao, ⟨co, rfl⟩, HSs.out, HB.out⟩
end Go.Proofs.Ytjehbnhjaogfkaa.Sc
end

section
namespace Go.Proofs.Ytjehbnhjaogfkaa.Sc
open Go.RowKit Go.Lib Go.Maps Go.WideAt Go.WideShapes Go.Proofs.YtjehbnhjaogfkaaW.PrintWords Go.Proofs.YtjehbnhjaogfkaaW.PrintLast Go.Proofs.YtjehbnhjaogfkaaW.PrintMore
open Go.Proofs.Ytjehbnhjaogfkaa
set_option linter.unusedVariables false
set_option linter.unusedSimpArgs false
theorem refdec_walk (W : World) (b : ByteArray) (hl : b.size ≤ maxLen) : Calls Try.prog 15 #[.string b] W fun e W' => RDecPost W (decR b.data.toList) e W' ∧ Below W.heap.size W W' := by
  have h := refdecode_walk W b.data.toList (by rw [Array.length_toList]; exact hl)
  rw [str_nm] at h
  exact h
theorem names_two (w : World) (g b h : Nat) (M : CatM) (h1 : IsCat (fun _ => True) w g b M) (h2 : IsRc w h (tbs M)) :
    Calls Try.prog 13 #[.pointer (some ⟨g, 0, none⟩)] w fun e w' => ∃ A c, e = .returned (.slice A (tbs M).length c) ∧ Below w.heap.size w w' ∧
      (Calls Try.prog 16 #[.pointer (some ⟨h, 0, none⟩)] w' fun e w2 => ∃ B d, e = .returned (.slice B (tbs M).length d) ∧ Below w.heap.size w w2 ∧
        (Calls Try.prog 12 #[.slice A (tbs M).length c, .slice B (tbs M).length d] w2 fun e w3 => e = .returned (.bool true) ∧ Below w.heap.size w w3)) := by
  have hlen : (tbs M).length ≤ 4096 := by unfold tbs; rw [List.length_map]; exact h1.len
  have hnm := nameL_tbs h1.st h1.named
  refine (names_walk _ w g b M h1).mono ?_
  rintro e w' ⟨v, rfl, hrow, hb⟩
  rw [hnm] at hrow
  obtain ⟨A, c, rfl, -, hs⟩ := sAt_own hrow
  have hll : ((tbs M).map (·.nm)).length = (tbs M).length := List.length_map _
  refine ⟨A, c, by rw [hll], hb, ?_⟩
  refine (refnames_walk w' h (tbs M) (h2.below hb) hlen).mono ?_
  rintro e w2 ⟨B, d, rfl, hs2, hb2⟩
  refine ⟨B, d, rfl, step hb hb2, ?_⟩
  have hT := sameT_walk w2 A B ((tbs M).map (·.nm)) c d (hs.below hb2) hs2
  rw [hll] at hT
  refine hT.mono ?_
  rintro e w3 ⟨rfl, hb3⟩
  exact ⟨rfl, step (step hb hb2) hb3⟩
set_option maxRecDepth 100000 in
set_option maxHeartbeats 16000000 in
theorem bytes_walk (W : World) (b : ByteArray) (hbl : b.size ≤ maxLen) : Calls Try.prog 4 #[.string b] W fun e W' => e = .returned (.bool true) ∧ Below W.heap.size W W' := by
  obtain ⟨⟨rn, ro⟩, hro⟩ : ∃ r, decR b.data.toList = r := ⟨_, rfl⟩
  have HRo := Aside0.mk hro
  clear hro
  cases ro with
  | none =>
    go_enter Try.func4, Try.ntmps4
    go_upto_region 3 with (first
      | (go_at_call 14; refine (dec_walk _ b hbl).mono ?_; rw [HRo.out]; rintro e w1 ⟨rfl, hb1⟩; have HB1 := Aside0.mk hb1; clear hb1)
      | (go_at_call 15; refine (refdec_walk _ b hbl).mono ?_; rw [HRo.out]; rintro e w2 ⟨rfl, hb2⟩; have HB2 := Aside0.mk hb2; clear hb2))
    have hx1 := heap_alloc_new w1 (.cells #[.int .i64 0, .int .i64 rn] 43)
    have hal2 := below_alloc (Below.refl w2.heap.size w2) (.cells #[.int .i64 0, .int .i64 rn] 43)
    have HX1 := Aside0.mk (blk_below (blk_below hx1 HB2.out) hal2)
    have HX2 := Aside0.mk (heap_alloc_new w2 (.cells #[.int .i64 0, .int .i64 rn] 43))
    have HB := Aside0.mk (step (step (step HB1.out (below_alloc (Below.refl w1.heap.size w1) (.cells #[.int .i64 0, .int .i64 rn] 43))) HB2.out) hal2)
    clear hx1 hal2 HB1 HB2
    generalize w2.alloc (.cells #[.int .i64 0, .int .i64 rn] 43) = w3 at *
    generalize w1.heap.size = p1 at *
    generalize w2.heap.size = p2 at *
    have a0 := (blk_cell HX1.out 0).trans (show _ = some (Value.int .i64 0) from rfl)
    have a1 := (blk_cell HX1.out 1).trans (show _ = some (Value.int .i64 rn) from rfl)
    have b0 := (blk_cell HX2.out 0).trans (show _ = some (Value.int .i64 0) from rfl)
    have b1 := (blk_cell HX2.out 1).trans (show _ = some (Value.int .i64 rn) from rfl)
    go_wp2_with (go_at_call 8; refine (works_walk _).mono ?_; rintro e w4 ⟨rfl, hb4⟩; have HB4 := Aside0.mk (step HB.out hb4); clear hb4)
    go_ret
    exact ⟨rfl, HB4.out⟩
  | some L =>
    go_enter Try.func4, Try.ntmps4
    go_upto_region 3 with (first
      | (go_at_call 14; refine (dec_walk _ b hbl).mono ?_; rw [HRo.out]; rintro e w1 ⟨⟨g, bb, M, rfl, hc, ht, -, -⟩, hb1⟩; have HB1 := Aside0.mk hb1; have HC1 := Aside0.mk hc; have HT1 := Aside0.mk ht; clear hb1 hc ht)
      | (go_at_call 15; refine (refdec_walk _ b hbl).mono ?_; rw [HRo.out]; rintro e w2 ⟨⟨h, rfl, hi, -⟩, hb2⟩; have HB2 := Aside0.mk hb2; have HI2 := Aside0.mk hi; clear hb2 hi))
    obtain rfl := HT1.out
    have hx1 := heap_alloc_new w1 (.cells #[.int .i64 0, .int .i64 rn] 43)
    have hal1 := below_alloc (Below.refl w1.heap.size w1) (.cells #[.int .i64 0, .int .i64 rn] 43)
    have hal2 := below_alloc (Below.refl w2.heap.size w2) (.cells #[.int .i64 0, .int .i64 rn] 43)
    have HX1 := Aside0.mk (blk_below (blk_below hx1 HB2.out) hal2)
    have HX2 := Aside0.mk (heap_alloc_new w2 (.cells #[.int .i64 0, .int .i64 rn] 43))
    have HB := Aside0.mk (step (step (step HB1.out hal1) HB2.out) hal2)
    have HC := Aside0.mk (((HC1.out.below hal1).below HB2.out).below hal2)
    have HI := Aside0.mk (HI2.out.below hal2)
    clear hx1 hal1 hal2 HB1 HB2 HC1 HI2 HT1 HRo
    generalize w2.alloc (.cells #[.int .i64 0, .int .i64 rn] 43) = w3 at *
    generalize w1.heap.size = p1 at *
    generalize w2.heap.size = p2 at *
    have a0 := (blk_cell HX1.out 0).trans (show _ = some (Value.int .i64 0) from rfl)
    have a1 := (blk_cell HX1.out 1).trans (show _ = some (Value.int .i64 rn) from rfl)
    have b0 := (blk_cell HX2.out 0).trans (show _ = some (Value.int .i64 0) from rfl)
    have b1 := (blk_cell HX2.out 1).trans (show _ = some (Value.int .i64 rn) from rfl)
    have HN := Aside0.mk (names_two w3 g bb h M HC.out HI.out)
    obtain ⟨L, hL⟩ : ∃ L, tbs M = L := ⟨_, rfl⟩
    have hlen : L.length ≤ 4096 := by rw [← hL]; unfold tbs; rw [List.length_map]; exact HC.out.len
    rw [hL] at HN HI
    have HTb := Aside0.mk hL
    clear hL
    go_upto_region 7 with fail
    clear a0 a1 b0 b1 HX1 HX2
    go_upto_region 9 with (first
      | (go_at_call 12; refine HN3.out.mono ?_; rintro e w6 ⟨rfl, hb6⟩; have HB6 := Aside0.mk hb6; clear hb6)
      | (go_at_call 16; refine HN2.out.mono ?_; rintro e w5 ⟨B, d, rfl, -, hN3⟩; have HN3 := Aside0.mk hN3; clear hN3)
      | (go_at_call 13; refine HN.out.mono ?_; rintro e w4 ⟨A, c, rfl, -, hN2⟩; have HN2 := Aside0.mk hN2; clear hN2))
    have HC6 := Aside0.mk (HC.out.below HB6.out)
    have HI6 := Aside0.mk (HI.out.below HB6.out)
    have HB6 := Aside0.mk (step HB.out HB6.out)
    clear HN HN2 HN3 HC HI HB
    obtain ⟨v, hvc, hvr⟩ := HI6.out
    obtain ⟨C, cc, rfl, hcc, hCC⟩ := Kd.R_reads hvr
    have HV := Aside0.mk hvc
    have HCC := Aside0.mk hCC
    have x9 := (blk_cell hvc 0).trans (show _ = some (Value.slice C L.length cc) from rfl)
    clear hvc hvr hCC HI6
    go_wp2_with fail
    clear x9
    go_loopg [7] (L.length + 1) (fun kq v7 w' => ∃ i : Nat, v7 = .int .i64 (i : Int) ∧ Aside0 (i + kq = L.length + 1 ∧ i ≤ L.length) ∧ Aside0 (Below w6.heap.size w6 w'))
    case atStart => exact ⟨0, rfl, ⟨by omega, Nat.zero_le _⟩, ⟨Below.refl _ _⟩⟩
    case round =>
      obtain ⟨i, rfl, HJ, HBr⟩ := hrel
      have x9 := (blk_cell (blk_below HV.out HBr.out) 0).trans (show _ = some (Value.slice C L.length cc) from rfl)
      by_cases hi : i < L.length
      · have hji : (i : Int) < (L.length : Int) := by omega
        obtain ⟨kq1, rfl⟩ : ∃ kq1, gk = kq1 + 1 := ⟨gk - 1, by have := HJ.out.1; omega⟩
        obtain ⟨ad, B, cb, D, cd, rfl, x0, x1, x2, x3, q1, q2, q3, q4⟩ := tb_at (Kd.C_below HCC.out HBr.out) i hi
        obtain ⟨t, ht⟩ : ∃ t, L[i] = t := ⟨_, rfl⟩
        have htm : t ∈ tbs M := by rw [HTb.out, ← ht]; exact List.getElem_mem hi
        have hck := HC6.out.len_enc t htm
        obtain ⟨s1, s2⟩ := chk_small hck
        rw [ht] at x0 x1 x2 x3 q1 q2 q3 q4
        have HF := Aside0.mk (find_tb wr g bb M (HC6.out.below HBr.out) t htm)
        have HQ2 := Aside0.mk q2
        have HQ4 := Aside0.mk q4
        have HSm := Aside0.mk s1
        have HHi := Aside0.mk hi
        have X0 := Aside0.mk x0
        have X1 := Aside0.mk (far_cell x1)
        have X2 := Aside0.mk (far_cell x2)
        have X3 := Aside0.mk (far_cell x3)
        clear q1 q2 q3 q4 ht hck s1 s2 hi x1 x2 x3
        go_upto_region 13 with (go_at_call 17; refine HF.out.mono ?_; rintro e w7 ⟨A3, ca3, B3, cb3, rfl, h1, h2, h3, h4, hb7⟩; have HP1 := Aside0.mk (show kcol.C w7 A3 t.cols.length t.cols ∧ kix.C w7 B3 t.ixs.length t.ixs from ⟨h2, h4⟩); have HB7 := Aside0.mk hb7; clear h1 h2 h3 h4 hb7)
        have hal7 := below_alloc (Below.refl w7.heap.size w7) (.cells #[.string t.nm, .slice A3 t.cols.length ca3, .int .i64 t.key, .slice B3 t.ixs.length cb3] 30)
        have hbb := step HB7.out hal7
        have HX1 := Aside0.mk (tbBox_made w7 (.string t.nm) (.slice A3 t.cols.length ca3) (.int .i64 t.key) (.slice B3 t.ixs.length cb3) 30)
        have HPa := Aside0.mk (Kd.C_below HP1.out.1 hal7)
        have HPb := Aside0.mk (Kd.C_below HP1.out.2 hal7)
        have HPc := Aside0.mk (Kd.C_below HQ2.out hbb)
        have HPd := Aside0.mk (Kd.C_below HQ4.out hbb)
        have HB8 := Aside0.mk (step HBr.out hbb)
        have x0 := cell_below hbb X0.out
        have x1 := cell_below hbb X1.out
        have x2 := cell_below hbb X2.out
        have x3 := cell_below hbb X3.out
        have x9 := (blk_cell (blk_below HV.out HB8.out) 0).trans (show _ = some (Value.slice (some ad) L.length cc) from rfl)
        clear hal7 hbb HP1 HB7 HF X0 X1 X2 X3 HQ2 HQ4
        generalize w7.alloc (.cells #[.string t.nm, .slice A3 t.cols.length ca3, .int .i64 t.key, .slice B3 t.ixs.length cb3] 30) = w8 at *
        generalize w7.heap.size = p7 at *
        have r0 := HX1.out.c0
        have r1 := HX1.out.c1
        have r2 := HX1.out.c2
        have r3 := HX1.out.c3
        go_cut [74] (fun v wc => v = .bool false ∧ Aside0 (Below w8.heap.size w8 wc))
        case first =>
          go_region_with (go_at_call 18; refine (sameTb_walk _ t A3 ca3 B3 cb3 B cb D cd (Kd.C_drew HPa.out) (Kd.C_drew HPb.out) (Kd.C_drew HPc.out) (Kd.C_drew HPd.out) (Nat.le_trans HSm.out.cl (by decide)) (Nat.le_trans HSm.out.il (by decide)) (fun x hx => Nat.le_trans (HSm.out.ixs x hx).2.1 (by decide))).mono ?_; rintro e w9 ⟨rfl, hb9⟩; have HB9 := Aside0.mk (step (below_drew (Below.refl w8.heap.size w8)) hb9); clear hb9)
          all_goals (go_wp2_with fail; go_meet; exact ⟨rfl, HB9⟩)
        case rest =>
        obtain ⟨rfl, HBc⟩ := hcut
        have HBz := Aside0.mk (step HB8.out HBc.out)
        clear r0 r1 r2 r3 x0 x1 x2 x3 x9
        go_wp2_with fail
        go_roundg kq1
        case measure => have := HJ.out; omega
        case rel => exact ⟨i + 1, by go_num, ⟨by have := HJ.out; omega, by have := HHi.out; omega⟩, HBz⟩
      · have hji : ¬ (i : Int) < (L.length : Int) := by omega
        have HBz := Aside0.mk (step HB6.out HBr.out)
        clear hi
        go_wp2_with (go_at_call 8; refine (works_walk _).mono ?_; rintro e w9 ⟨rfl, hb9⟩; have HB9 := Aside0.mk (step HBz.out hb9); clear hb9)
        go_ret
        exact ⟨rfl, HB9.out⟩
end Go.Proofs.Ytjehbnhjaogfkaa.Sc
end
