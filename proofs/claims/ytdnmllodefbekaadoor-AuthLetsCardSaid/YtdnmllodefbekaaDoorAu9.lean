import Derived.Test.YtdnmllodefbekaaDoorAu8
import Derived.Lib.ConvBytes
namespace Go.Proofs.YtdnmllodefbekaaDoor.Au
open Go.RowKit Go.Lib Go.Shelf Go.Proofs.YtdnmllodefbekaaDoor.Sha Go.Proofs.YtdnmllodefbekaaDoorW.PrintWords Go.Proofs.YtdnmllodefbekaaDoorW.PrintLast Go.Proofs.YtdnmllodefbekaaDoorW.PrintMore
set_option linter.unusedVariables false
set_option linter.unusedSimpArgs false
theorem bytes_step {P : Program} {ops : Array Oper} {rest : List Oper} {o : Oper} {a : Act} {Q : Exit → Act → World → Prop} {W : World} (hgd : o.guard = none) (src dst e : TypeId) (x : Operand) (ho : o.op = .convert src dst x) (s : ByteArray) (hx : a.eval x = .string s)
    (hs : P.underlying src = some .string) (hd : P.underlying dst = some (.slice e)) (he : P.underlying e = some (.int .u8)) (hsz : s.size ≤ 9223372036854775807)
    (h : ∀ (W1 : World) (c : Nat), Below W.heap.size W W1 → ReadsInt W1 .u8 (some ⟨W.heap.size, 0, none⟩) s.size (bytesOf s) → (∀ j, j < s.size → W1.frozen? ⟨W.heap.size, j, none⟩ = false) → W.heap.size < W1.heap.size → (∃ cs t z, W1.heap[W.heap.size]? = some (.cells cs t z) ∧ s.size ≤ cs.size) →
      wpList P ops Q rest (a.put o.dst (.slice (some ⟨W.heap.size, 0, none⟩) s.size c)) W1) : wpList P ops Q (o :: rest) a W := by
  have hsize : s.size ≤ (Lib.bytesCells W e s).size := by simp [Lib.bytesCells]
  refine Kd.event_run hgd (v := .slice (some ⟨W.heap.size, 0, none⟩) s.size (grownCap W s.size 0 e)) (w1 := Lib.bytesWorld W e s) ?_ (h _ _ ?_ (bytes_reads W e s hsz) ?_ ?_ ⟨_, _, _, Lib.bytesWorld_at_new W e s, hsize⟩)
  · simp [execOp, ho, hx, print_bytes src dst e hs hd he s W]
  · exact bytes_below (Below.refl _ _) (Nat.le_refl _) e s
  · intro j hj
    simp [World.frozen?, Lib.bytesWorld_at_new]
    omega
  · rw [Lib.bytesWorld_size]; omega
theorem cell_of_reads {w : World} {g n i : Nat} {s : ByteArray} (h : ReadsInt w .u8 (some ⟨g, 0, none⟩) n (bytesOf s)) (hi : i < n) : w.cell? ⟨g, i, none⟩ = some (.int .u8 (bt s (i : Int))) := by
  obtain ⟨ad, e, hc⟩ := h.2.2 (by omega)
  obtain rfl := Option.some.inj e
  have := hc i hi
  rw [add_plain] at this
  rw [this]
  have := rd_bytesOf s (i : Int)
  unfold rd at this
  simp only [Int.toNat_natCast] at this
  rw [this]
theorem reads_set {w : World} {g n : Nat} {xs : List Int} (h : ReadsInt w .u8 (some ⟨g, 0, none⟩) n xs) (i : Nat) (v : Int) (hi : i < n) (hb : ∃ cs t z, w.heap[g]? = some (.cells cs t z) ∧ n ≤ cs.size) :
    ReadsInt (w.setCell ⟨g, i, none⟩ (.int .u8 v)) .u8 (some ⟨g, 0, none⟩) n (xs.set i v) := by
  obtain ⟨cs, t, z, hb, hn⟩ := hb
  refine ⟨by rw [List.length_set]; exact h.1, h.2.1, fun hp => ⟨_, rfl, fun j hj => ?_⟩⟩
  obtain ⟨ad, e, hc⟩ := h.2.2 hp
  obtain rfl := Option.some.inj e
  have hcj := hc j hj
  rw [add_plain] at hcj ⊢
  have hl := h.1
  by_cases hij : i = j
  · subst hij
    have : (xs.set i v).getD i 0 = v := by simp [List.getD_eq_getElem?_getD, hl, hi]
    rw [this]
    have hcs : i < cs.size := by omega
    simp [World.setCell, World.cell?, Array.getElem?_modify, hb, hcs]
  · have : (xs.set i v).getD j 0 = xs.getD j 0 := by simp [List.getD_eq_getElem?_getD, List.getElem?_set, hij]
    rw [this, ← hcj]
    exact World.cell?_setCell_other w ⟨g, i, none⟩ ⟨g, j, none⟩ _ (fun e => hij (by simp at e <;> omega))
theorem xor_ne (x y : Int) (hx : 0 ≤ x ∧ x < 256) (hy : 0 < y ∧ y < 256) : bits .xor .u8 x y ≠ x ∧ 0 ≤ bits .xor .u8 x y ∧ bits .xor .u8 x y < 256 := by
  obtain ⟨a, rfl⟩ := Int.eq_ofNat_of_zero_le hx.1
  obtain ⟨b, rfl⟩ := Int.eq_ofNat_of_zero_le (show 0 ≤ y by omega)
  have e : bits .xor .u8 (a : Int) (b : Int) = ((BitVec.ofNat 8 a ^^^ BitVec.ofNat 8 b).toNat : Int) := by
    unfold bits
    simp only [IntKind.wrap_u8, BitVec.ofInt_natCast]
    show ((BitVec.ofNat 8 a ^^^ BitVec.ofNat 8 b).toNat : Int) % 256 = _
    have := (BitVec.ofNat 8 a ^^^ BitVec.ofNat 8 b).isLt
    omega
  have hl := (BitVec.ofNat 8 a ^^^ BitVec.ofNat 8 b).isLt
  refine ⟨?_, by omega, by omega⟩
  rw [e]
  intro h
  have h1 : (BitVec.ofNat 8 a ^^^ BitVec.ofNat 8 b) = BitVec.ofNat 8 a := BitVec.eq_of_toNat_eq (by rw [BitVec.toNat_ofNat]; omega)
  have h2 : BitVec.ofNat 8 b = 0#8 := by
    have : BitVec.ofNat 8 a ^^^ (BitVec.ofNat 8 a ^^^ BitVec.ofNat 8 b) = BitVec.ofNat 8 a ^^^ BitVec.ofNat 8 a := congrArg _ h1
    rwa [← BitVec.xor_assoc, BitVec.xor_self, BitVec.zero_xor] at this
  have h3 := congrArg BitVec.toNat h2
  rw [BitVec.toNat_ofNat] at h3
  simp at h3
  omega
theorem turned_ne (P : ByteArray) (c : Nat) (y : Int) (hc : c < P.size) (hy : 0 < y ∧ y < 256) : strOfNums ((bytesOf P).set c (bits .xor .u8 (bt P (c : Int)) y)) ≠ P := by
  obtain ⟨h1, h2, h3⟩ := xor_ne (bt P (c : Int)) y (by have := bt_range P (c : Int); omega) hy
  intro h
  have h4 := congrArg bytesOf h
  rw [bytesOf_strOfNums] at h4
  · have h5 := congrArg (fun l => l.getD c 0) h4
    have hcl : c < (bytesOf P).length := by rw [bytesOf_length]; exact hc
    have := rd_bytesOf P (c : Int)
    unfold rd at this
    simp only [Int.toNat_natCast] at this
    simp only [this] at h5
    rw [List.getD_eq_getElem?_getD, List.getElem?_set_self hcl] at h5
    exact h1 h5
  · intro x hx
    rcases List.mem_or_eq_of_mem_set hx with hx | rfl
    · exact bytesOf_byte P x hx
    · exact ⟨h2, h3⟩
theorem cut_ne (P : ByteArray) (c : Nat) (hc : c < P.size) : P.extract 0 c ≠ P := fun h => by
  have := congrArg ByteArray.size h
  simp at this
  omega
theorem l_put (n k : ByteArray) (hn : nameOk n = true) (h1 : 1 ≤ k.size) (h2 : k.size ≤ 64) : put [] n k = ([(n.data.toList, k)], 0) := by
  unfold put
  rw [hn, if_neg (by decide), if_neg (by omega), if_neg (by simp)]
  rfl
theorem l_put_no (n k : ByteArray) (h : ¬ (nameOk n = true ∧ 1 ≤ k.size ∧ k.size ≤ 64)) : (put [] n k).1 = [] ∧ ((put [] n k).2 = 10 ∨ (put [] n k).2 = 2) := by
  unfold put
  by_cases hn : nameOk n = false
  · rw [if_pos hn]; exact ⟨rfl, .inl rfl⟩
  · rw [if_neg hn]
    rw [if_pos (show k.size = 0 ∨ 64 < k.size by
      have : nameOk n = true := by simpa using hn
      simp only [this, true_and] at h
      omega)]
    exact ⟨rfl, .inr rfl⟩
theorem l_key (n k : ByteArray) : keyAt [(n.data.toList, k)] n = k ∧ there [(n.data.toList, k)] n = true := by
  constructor
  · simp [keyAt, FM.get]
  · simp [there, FM.get]
theorem l_check (n k c p : ByteArray) : check [(n.data.toList, k)] n c p = if p = proofS k n c then 0 else 250 := by
  unfold check
  rw [(l_key n k).1, (l_key n k).2]
  rfl
theorem l_take (n k : ByteArray) : take [(n.data.toList, k)] n = ([], 0) := by
  unfold take
  rw [(l_key n k).2, if_pos rfl]
  simp [FM.del]
theorem l_check0 (n c p : ByteArray) : check [] n c p = 250 := by
  unfold check
  rw [show there [] n = false from rfl]
  split <;> rfl
theorem nameOk_size {n : ByteArray} (h : nameOk n = true) : n.size ≤ 32 := by
  unfold nameOk at h
  simp only [Bool.and_eq_true, decide_eq_true_eq] at h
  exact h.1.2
abbrev YAt (W : World) (k : Nat) (d a y : Int) : Prop := W.cell? ⟨k, 0, none⟩ = some (.int .u64 d) ∧ W.cell? ⟨k, 1, none⟩ = some (.int .i64 a) ∧ W.cell? ⟨k, 2, none⟩ = some (.int .u8 y)
theorem y_new (W : World) (d a y : Int) : YAt (W.alloc (.cells #[.int .u64 d, .int .i64 a, .int .u8 y] 48)) W.heap.size d a y := by
  have h := heap_alloc_new W (.cells #[.int .u64 d, .int .i64 a, .int .u8 y] 48)
  exact ⟨blk_cell h 0, blk_cell h 1, blk_cell h 2⟩
set_option maxRecDepth 100000 in
set_option maxHeartbeats 4000000 in
theorem lets_good1 (n k : ByteArray) (d a y : Int) (hd : 0 ≤ d ∧ d < 18446744073709551616) (hy : 0 < y ∧ y < 256) (hyb : (y == 0) = false) (w : World) (hL : Laid w) (h2 : 2 ≤ w.heap.size)
    (hn : nameOk n = true) (gk1 : 1 ≤ k.size) (gk2 : k.size ≤ 64) (c : Nat) (hc : wrap64 ((IntKind.u64.wrap a).tmod 32) = (c : Int)) (hcl : c < 32) :
    Calls Tryd.prog 9 #[.string n, .string k, .agg #[.int .u64 d, .int .i64 a, .int .u8 y]] w fun e w' => e = .returned (.bool true) ∧ Below w.heap.size w w' := by
  have HL := Aside0.mk hL
  have HD := Aside0.mk hd
  have hns := nameOk_size hn
  have HP1 := Aside0.mk (l_put n k hn gk1 gk2)
  have HT := Aside0.mk (l_take n k)
  obtain ⟨C, hC⟩ : ∃ C, chalS d a = C := ⟨_, rfl⟩
  have sC : C.size = 32 := by rw [← hC]; exact chalS_size _ _
  obtain ⟨P, hP⟩ : ∃ P, proofS k n C = P := ⟨_, rfl⟩
  have sP : P.size = 32 := by rw [← hP]; exact proofS_size _ _ _
  have sP' : (P.size : Int) = 32 := by omega
  have HC := Aside0.mk hC
  have HP := Aside0.mk hP
  have HK1 := Aside0.mk (show check [(n.data.toList, k)] n C P = 0 from by rw [l_check, hP, if_pos rfl])
  obtain ⟨P2, e2⟩ : ∃ P2, strOfNums ((bytesOf P).set c (Go.bits .xor .u8 (bt P (c : Int)) y)) = P2 := ⟨_, rfl⟩
  have n2 := turned_ne P c y (by omega) (by first | exact hy | decide)
  have s2 : P2.size = 32 := by rw [← e2, strOfNums_size', List.length_set, bytesOf_length]; exact sP
  rw [e2] at n2
  have HE2 := Aside0.mk e2
  have HK2 := Aside0.mk (show check [(n.data.toList, k)] n C P2 = 250 from by rw [l_check, hP, if_neg n2])
  have s3 : (P.extract 0 c).size ≤ 32 := by simp; omega
  have HK3 := Aside0.mk (show check [(n.data.toList, k)] n C (P.extract 0 c) = 250 from by rw [l_check, hP, if_neg (cut_ne P c (by omega))])
  have HK4 := Aside0.mk (l_check0 n C P)
  have hcl' : (c : Int) < 32 := by omega
  have hcP : (c : Int) ≤ (P.size : Int) := by omega
  have hcP2 : (c : Int) < (P.size : Int) := by omega
  have hmn : n.size ≤ maxLen := by unfold maxLen; omega
  clear hL hd hC hP e2 n2 hn
  have HX0 := Aside0.mk (And.intro (y_new w d a y) (below_alloc (Below.refl w.heap.size w) (.cells #[.int .u64 d, .int .i64 a, .int .u8 y] 48)))
  have hk0 : w.heap.size < (w.alloc (.cells #[.int .u64 d, .int .i64 a, .int .u8 y] 48)).heap.size := by simp
  go_enter Tryd.func9, Tryd.ntmps9
  go_wp2_with fail
  generalize (w.alloc (.cells #[.int .u64 d, .int .i64 a, .int .u8 y] 48)) = w0 at *
  obtain ⟨x0, x1, x2⟩ := HX0.out.1
  have HB0 := Aside0.mk HX0.out.2
  have hh0 := Aside0.mk hk0
  clear HX0 hk0
  go_quiet (fail)
  go_wp2_with fail
  refine (new_walk _).mono ?_
  rintro e w1 ⟨rfl, hI1, hB1⟩
  have HB1 := Aside0.mk (below_step (pw_below_drewN HB0.out nq) hB1)
  have HI1 := Aside0.mk hI1
  have hs0 : w.heap.size ≤ (w0.drewN nq).heap.size := (pw_below_drewN HB0.out nq).size
  clear hI1 hB1 x0 x1 x2
  generalize (w0.drewN nq).heap.size = s at *
  go_wp2_with fail
  refine (works_walk _ (HL.out.step HB1.out h2) (Nat.le_trans h2 HB1.out.size)).mono ?_
  rintro e w2 ⟨rfl, hB2⟩
  have HB2 := Aside0.mk (below_step HB1.out hB2)
  have HI2 := Aside0.mk (HI1.out.below hB2)
  clear hB2
  go_wp2_with fail
  refine (put_walk _ _ _ _ HI2.out n k hmn).mono ?_
  rw [HP1.out]
  rintro e w3 ⟨rfl, hI3, hF3⟩
  have HI3 := Aside0.mk hI3
  have HB3 := Aside0.mk (hF3.below HB2.out fun k hk => by unfold Only at hk; omega)
  clear hI3 hF3
  go_wp2_with fail
  refine (chal_walk d a HD.out.1 HD.out.2 _ (HL.out.step HB3.out h2) (Nat.le_trans h2 HB3.out.size)).mono ?_
  rw [HC.out]
  rintro e w4 ⟨rfl, hB4⟩
  have HB4 := Aside0.mk (below_step HB3.out hB4)
  have HI4 := Aside0.mk (HI3.out.below hB4)
  clear hB4
  go_wp2_with fail
  refine (proof_walk k n C _ (HL.out.step HB4.out h2) (Nat.le_trans h2 HB4.out.size) (by omega) (by omega) (by omega)).mono ?_
  rw [HP.out]
  rintro e w5 ⟨rfl, hB5⟩
  have HB5 := Aside0.mk (below_step HB4.out hB5)
  have HI5 := Aside0.mk (HI4.out.below hB5)
  clear hB5
  go_wp2_with fail
  refine (check_walk _ _ _ _ HI5.out (HL.out.step HB5.out h2) (Nat.le_trans h2 HB5.out.size) n C P (by omega) (by omega) (by omega)).mono ?_
  rw [HK1.out]
  rintro e w6 ⟨rfl, hB6⟩
  have HB6 := Aside0.mk (below_step HB5.out hB6)
  have HI6 := Aside0.mk (HI5.out.below hB6)
  clear hB6
  go_wp2_with (first | ((with_reducible refine gate_dst (N := 53) rfl ?_); refine bytes_step rfl 9 32 5 _ rfl P rfl Tryd.underlying9 Tryd.underlying32 Tryd.underlying5 (by omega) ?_; intro W7 cap hb7 hr7 hf7 hg7 hk7; have hcell := cell_of_reads hr7 (show c < P.size by omega); have hfz := hf7 c (by omega); have hcv : (convert 32 9 (.slice (some ⟨w6.heap.size, 0, none⟩) 32 cap)).run Tryd.prog (W7.setCell ⟨w6.heap.size, c, none⟩ (.int .u8 (Go.bits .xor .u8 (bt P (c : Int)) y))) = .ok (.string P2) _ := (by have h_ := string_of_reads (P := Tryd.prog) (c := cap) Tryd.underlying32 Tryd.underlying5 Tryd.underlying9 (reads_set hr7 c (Go.bits .xor .u8 (bt P (c : Int)) y) (by omega) hk7); rw [HE2.out, sP] at h_; exact h_); have HB8 := Aside0.mk (hb7.setCell (p := ⟨w6.heap.size, c, none⟩) (Nat.le_refl _) (.int .u8 (Go.bits .xor .u8 (bt P (c : Int)) y))); clear hb7 hr7 hf7 hk7))
  refine (check_walk _ _ _ _ (HI6.out.below HB8.out) (HL.out.step (below_step HB6.out HB8.out) h2) (Nat.le_trans h2 (below_step HB6.out HB8.out).size) n C P2 (by omega) (by omega) (by omega)).mono ?_
  rw [HK2.out]
  rintro e w9 ⟨rfl, hB9⟩
  have HB9 := Aside0.mk (below_step (below_step HB6.out HB8.out) hB9)
  have HI9 := Aside0.mk ((HI6.out.below HB8.out).below hB9)
  clear hB9 hcell hfz hcv HB8
  go_wp2_with fail
  refine (check_walk _ _ _ _ HI9.out (HL.out.step HB9.out h2) (Nat.le_trans h2 HB9.out.size) n C (P.extract 0 c) (by omega) (by omega) (by omega)).mono ?_
  rw [HK3.out]
  rintro e w10 ⟨rfl, hB10⟩
  have HB10 := Aside0.mk (below_step HB9.out hB10)
  have HI10 := Aside0.mk (HI9.out.below hB10)
  clear hB10
  go_wp2_with fail
  refine (take_walk _ _ _ _ HI10.out n hmn).mono ?_
  rw [HT.out]
  rintro e w11 ⟨rfl, hI11, hF11⟩
  have HI11 := Aside0.mk hI11
  have HB11 := Aside0.mk (hF11.below HB10.out fun k hk => by unfold Only at hk; omega)
  clear hI11 hF11
  go_wp2_with fail
  refine (check_walk _ _ _ _ HI11.out (HL.out.step HB11.out h2) (Nat.le_trans h2 HB11.out.size) n C P (by omega) (by omega) (by omega)).mono ?_
  rw [HK4.out]
  rintro e w12 ⟨rfl, hB12⟩
  have HB12 := Aside0.mk (below_step HB11.out hB12)
  clear hB12
  go_wp2
  go_ret
  exact ⟨rfl, HB12.out⟩
end Go.Proofs.YtdnmllodefbekaaDoor.Au
