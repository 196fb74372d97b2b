import Derived.Test.YtdnmllodefbekaaDoorSha7
namespace Go.Proofs.YtdnmllodefbekaaDoor.Sha
open Go.RowKit Go.Lib Go.Proofs.YtdnmllodefbekaaDoorW.PrintWords Go.Proofs.YtdnmllodefbekaaDoorW.PrintLast Go.Proofs.YtdnmllodefbekaaDoorW.PrintMore
set_option linter.unusedVariables false
set_option linter.unusedSimpArgs false
section
variable {P : Program} {ops : Array Oper} {rest : List Oper} {o : Oper} {a : Act} {Q : Exit → Act → World → Prop} {α : Type}
theorem Kd.R_makecap (d : Kd α) {w0 W : World} (base e : Nat) (hgd : o.guard = none) {N : Tmp} (hd : o.dst = some N) (t : TypeId) (x y : Operand) (ho : o.op = .makeSlice t x y) (n : Int) (hx : a.eval x = .int .i64 0) (hy : a.eval y = .int .i64 n)
    (ht : P.underlying t = some (.slice e)) (z : Value) (bytes : Nat) (hinfo : (P.info? e).map (fun i => (i.zero, i.size, i.bytes)) = some (some z, d.sz, bytes)) (hz : z.cells.size = d.sz) (hs0 : 0 < d.sz) (hb0 : 0 < bytes)
    (z0 : α) {ok okp : Nat → Prop} (hzero : d.M W base okp z0 z.cells.toList) (hok : ∀ k, okp k → ok k) (hfresh : ok W.heap.size) (h0 : 0 ≤ n) (hl : n.toNat * bytes ≤ 281474976710656) (HB : Below base w0 W) (hbase : base ≤ W.heap.size)
    (h : ∀ v1 w1, d.R e w1 base ok v1 ([] : List α) → Below base w0 w1 → W.grownBy w1 none → (∃ b, v1.ownBlock = some b ∧ W.heap.size ≤ b) → wpList P ops Q rest (a.put o.dst v1) w1) : wpList P ops Q (o :: rest) a W := by
  obtain ⟨m, rfl⟩ := Int.eq_ofNat_of_zero_le h0
  simp only [Int.toNat_natCast] at hl h
  obtain ⟨i0, hi, hzz⟩ := Option.map_eq_some_iff.1 hinfo
  simp only [Prod.mk.injEq] at hzz
  obtain ⟨hz0, hz1, hz2⟩ := hzz
  have hm : m ≤ 281474976710656 := Nat.le_trans (Nat.le_mul_of_pos_right _ hb0) hl
  have hr := run_make (P := P) W t e i0 z ht hi hz0 .i64 .i64 (0 : Int) (m : Int) (by omega) (by omega)
    (by
      have h3 : ((i0.bytes * m : Nat) : Int) ≤ 281474976710656 := by rw [hz2, Nat.mul_comm]; omega
      rwa [Int.natCast_mul] at h3) (by omega)
  simp only [Int.toNat_natCast, Int.toNat_zero] at hr
  rw [hz1] at hr
  have hrun : (execOp a.eval o).run P W = .ok (.value (.slice (some ⟨W.heap.size, 0, none⟩) 0 m)) (W.alloc (.cells (madeCells z.cells (m * d.sz)) e)) := by simp [execOp, ho, hx, hy, hr]
  have hown : (W.alloc (.cells (madeCells z.cells (m * d.sz)) e)).ownsRow base e d.sz (.slice (some ⟨W.heap.size, 0, none⟩) 0 m) ([] : List α).length [] :=
    ⟨by simp, .inr ⟨W.heap.size, m, madeCells z.cells (m * d.sz), rfl, hbase, heap_alloc_new W _, Nat.zero_le _, by unfold maxLen; omega, by simp [madeCells], by simp⟩⟩
  refine Kd.event_run hgd hrun (h _ _ ⟨?_, [], hown, Reps.none _ _⟩ (HB.alloc hbase _) (World.grownBy_alloc W _ none) ⟨W.heap.size, rfl, Nat.le_refl _⟩)
  intro k hk
  have : W.heap.size = k := by simpa [Value.ownBlock] using hk
  subst this; exact hfresh
end
def hexD (x : Int) : Int := if x < 10 then 48 + x else 87 + x
def hexL : List Int → List Int
  | [] => []
  | x :: l => hexD (x / 16) :: hexD (x % 16) :: hexL l
theorem hexL_len : ∀ l : List Int, (hexL l).length = 2 * l.length
  | [] => rfl
  | x :: l => by simp only [hexL, List.length_cons, hexL_len l]; omega
theorem hexL_snoc : ∀ (l : List Int) (x : Int), hexL (l ++ [x]) = hexL l ++ [hexD (x / 16), hexD (x % 16)]
  | [], x => rfl
  | y :: l, x => by simp only [hexL, List.cons_append, hexL_snoc l x]
theorem idx_hex (v : Int) (h0 : 0 ≤ v) (h1 : v < 16) (W : World) : (Instr.index 9 (.string ⟨#[48, 49, 50, 51, 52, 53, 54, 55, 56, 57, 97, 98, 99, 100, 101, 102]⟩) (.int .u8 v)).run Tryd.prog W = .ok (.int .u8 (hexD v)) W := by
  rw [run_index_string W 9 _ .u8 v Tryd.underlying9]
  have hv : v = 0 ∨ v = 1 ∨ v = 2 ∨ v = 3 ∨ v = 4 ∨ v = 5 ∨ v = 6 ∨ v = 7 ∨ v = 8 ∨ v = 9 ∨ v = 10 ∨ v = 11 ∨ v = 12 ∨ v = 13 ∨ v = 14 ∨ v = 15 := by omega
  rcases hv with rfl | rfl | rfl | rfl | rfl | rfl | rfl | rfl | rfl | rfl | rfl | rfl | rfl | rfl | rfl | rfl <;> rfl
theorem bt_rd (s : ByteArray) (i : Nat) (h : i < s.size) : ∃ b : Int, 0 ≤ b ∧ b < 256 ∧ rd (bytesOf s) (i : Nat) = b ∧ ∀ h' : i < s.size, ((s[i]'h').toNat : Int) = b := by
  refine ⟨bt s (i : Nat), (bt_range s _).1, by have := (bt_range s (i : Nat)).2; omega, rd_bytesOf s _, fun h' => ?_⟩
  have := bt_at s (i : Nat) (by simpa using h)
  simpa using this
def hexR (b : ByteArray) : Value := if 262144 < b.size then .tuple #[.string ⟨#[]⟩, .int .i64 2] else .tuple #[.string (strOfNums (hexL (bytesOf b))), .int .i64 0]
theorem two_reads (W : World) (a b : Int) : Kd.C (Kd.int .u8) (W.alloc (.cells #[.int .u8 a, .int .u8 b] 5)) (some ⟨W.heap.size, 0, none⟩) 2 [a, b] := by
  refine Kd.C_of_reads (enc := Value.int .u8) (d := 0) (h1 := fun _ => rfl) ⟨rfl, by decide, fun _ => ⟨_, rfl, fun j hj => ?_⟩⟩
  rw [add_plain, blk_cell (heap_alloc_new W (.cells #[.int .u8 a, .int .u8 b] 5)) j]
  rcases j with _ | _ | j
  · rfl
  · rfl
  · omega
theorem hexL_take_succ (b : ByteArray) (t : Nat) (h : t < b.size) : hexL ((bytesOf b).take (t + 1)) = hexL ((bytesOf b).take t) ++ [hexD (rd (bytesOf b) t / 16), hexD (rd (bytesOf b) t % 16)] := by
  have hl : t < (bytesOf b).length := by rw [bytesOf_length]; exact h
  rw [List.take_succ_eq_append_getElem hl, hexL_snoc]
  simp [rd, List.getD_eq_getElem?_getD, hl]
attribute [local go_sem high] idx_hex
set_option maxRecDepth 100000 in
set_option maxHeartbeats 8000000 in
theorem hex_walk (b : ByteArray) (w : World) :
    Calls Tryd.prog 20 #[.string b] w fun e w' => e = .returned (hexR b) ∧ Below w.heap.size w w' := by
  go_enter Tryd.func20, Tryd.ntmps20
  unfold hexR
  by_cases q0 : 262144 < b.size
  · rw [if_pos q0]
    go_wp2
    go_ret2
    exact ⟨rfl, Below.refl _ _⟩
  · rw [if_neg q0]
    go_wp2_with (first | ((with_reducible refine gate_dst (N := 12) rfl ?_); refine Kd.R_makecap (Kd.int .u8) (w0 := w) w.heap.size 5 rfl (N := 12) rfl 32 _ _ rfl (2 * (b.size : Int)) rfl rfl Tryd.underlying32 (.int .u8 0) 1 info5 rfl (by decide) (by omega) 0 (ok := fun _ => True) (okp := fun _ => True) rfl (fun _ hk => hk) trivial (by omega) (by omega) (Below.refl _ _) (Nat.le_refl _) ?_; intro v12 w1 hr1 hb1 hg1 hn1; have HO := Aside0.mk hr1; have HB := Aside0.mk hb1; clear hr1 hb1 hg1 hn1))
    go_loopg [4, 15] (b.size + 1) (fun kq v4 v15 w' => ∃ t : Nat, v15 = .int .i64 (t : Int) ∧ Aside0 (t + kq = b.size + 1 ∧ t ≤ b.size) ∧ Aside0 (Kd.R (Kd.int .u8) 5 w' w.heap.size (fun _ => True) v4 (hexL ((bytesOf b).take t))) ∧ Aside0 (Below w.heap.size w w'))
    case atStart => exact ⟨0, rfl, ⟨by omega, Nat.zero_le _⟩, HO, HB⟩
    case round =>
      obtain ⟨t, rfl, HT, HO2, HB2⟩ := hrel
      clear HO HB
      obtain ⟨A4, c4, rfl⟩ := Kd.R_slice HO2.out
      have hlo : (hexL ((bytesOf b).take t)).length = 2 * t := by rw [hexL_len, List.length_take, bytesOf_length, Nat.min_eq_left HT.out.2]
      rw [hlo] at HO2 ⊢
      clear hlo
      by_cases q1 : t < b.size
      · obtain ⟨kq1, rfl⟩ : ∃ kq1, gk = kq1 + 1 := ⟨gk - 1, by have := HT.out; omega⟩
        obtain ⟨x, hx0, hx1, hxr, hxb⟩ := bt_rd b t q1
        have hv1 : 0 ≤ x / 16 := by omega
        have hv2 : x / 16 < 16 := by omega
        have hv3 : 0 ≤ x % 16 := by omega
        have hv4 : x % 16 < 16 := by omega
        have ha : bits .and .u8 x 15 = x % 16 := bits_mask .u8 8 (by decide) wraps_u8 4 (by decide) x hx0 hx1
        go_wp2_with fail
        go_region_held3 (fun _ => True) (exact trivial)
          (first | (refine Kd.R_append_rows_step (Kd.int .u8) (w0 := w) w.heap.size (by rfl) (.tmp 18) (.tmp 29) 32 5 (.int .u8 0) 1 rfl Tryd.underlying32 info5 rfl (by decide) (by decide) _ (hexL ((bytesOf b).take t)) [hexD (x / 16), hexD (x % 16)] (some ⟨wr.heap.size, 0, none⟩) 2 2 (fun _ => True) (fun _ => False) rfl rfl ?aO ?aC (fun _ _ h => h) (fun _ h => h.elim) (fun _ _ => trivial) ?aB ?aS (by rw [hexL_len, List.length_take]; simp; omega) ?_; (case aO => first | exact Kd.R_alloc (Kd.R_drew HO2.out) _ | exact Kd.R_drew (Kd.R_alloc HO2.out _)); (case aC => exact two_reads _ _ _); (case aB => first | exact below_alloc (below_drew1 HB2.out) _ | exact below_drew1 (below_alloc HB2.out _)); (case aS => first | exact (below_alloc (below_drew1 HB2.out) _).size | exact (below_drew1 (below_alloc HB2.out _)).size); intro v1 w8 hr8 hb8 hg8 hat8; have HO8 := Aside0.mk hr8; have HB8 := Aside0.mk hb8; clear hr8 hb8 hg8 hat8))
        all_goals
          go_wp2_with fail
          go_roundg kq1
          case measure => omega
          case rel => exact ⟨t + 1, by simp, ⟨by have := HT.out; omega, q1⟩, ⟨by rw [hexL_take_succ b t q1, hxr]; exact HO8.out⟩, HB8⟩
      · obtain rfl : t = b.size := by have := HT.out; omega
        have hall : (bytesOf b).take b.size = bytesOf b := List.take_of_length_le (by rw [bytesOf_length]; exact Nat.le_refl _)
        rw [hall] at HO2
        have hcv := own_string (P := Tryd.prog) Tryd.underlying32 Tryd.underlying5 Tryd.underlying9 (Kd.own_of_R HO2.out)
        clear q1 hall
        go_wp2
        go_ret2
        exact ⟨rfl, HB2.out⟩
end Go.Proofs.YtdnmllodefbekaaDoor.Sha
