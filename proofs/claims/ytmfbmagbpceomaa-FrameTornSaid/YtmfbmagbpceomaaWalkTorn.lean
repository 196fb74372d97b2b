/- The walk of FrameTorn: what the code does with a frame that ends early, and with one in which a byte is another one. -/
import Derived.Test.YtmfbmagbpceomaaHFrameTornx
import Derived.Lib.ConvBytes
namespace Go.Proofs.Ytmfbmagbpceomaa.HFrameTorn
open Go.RowKit Go.Proofs.YtmfbmagbpceomaaW.PrintWords Go.Proofs.YtmfbmagbpceomaaW.PrintLast Go.Proofs.YtmfbmagbpceomaaW.PrintMore
set_option linter.unusedVariables false
set_option linter.unusedSimpArgs false
theorem eqA63 (d : Nat) (w : World) (x0 y0 : Int) (x1 y1 : Int) :
    (Op.equalIn (d + 2) 63 (.agg #[.int .i64 x0, .int .i64 x1]) (.agg #[.int .i64 y0, .int .i64 y1])).run Try.prog w = .ok (x0 == y0 && (x1 == y1)) w := by
  refine eqA_of Try.underlying63 (by kernel_rfl) ?_
  refine eqf_cons (by rfl) (by go_simp; rfl) (by go_simp; rfl) (by go_simp) ?_
  exact eqf_last (by rfl) (by go_simp; rfl) (by go_simp; rfl) (by go_simp)
attribute [local go_sem high] eqA63
theorem bytes_step {P : Program} {ops : Array Oper} {rest : List Oper} {o : Oper} {a : Act} {Q : Exit → Act → World → Prop} {W : World} (hgd : o.guard = none) (src dst e : TypeId) (x : Operand) (ho : o.op = .convert src dst x) (s : ByteArray) (hx : a.eval x = .string s)
    (hs : P.underlying src = some .string) (hd : P.underlying dst = some (.slice e)) (he : P.underlying e = some (.int .u8)) (hsz : s.size ≤ 9223372036854775807)
    (h : ∀ (W1 : World) (c : Nat), Below W.heap.size W W1 → ReadsInt W1 .u8 (some ⟨W.heap.size, 0, none⟩) s.size (bytesOf s) → (∀ j, j < s.size → W1.frozen? ⟨W.heap.size, j, none⟩ = false) → W.heap.size < W1.heap.size → (∃ cs t z, W1.heap[W.heap.size]? = some (.cells cs t z) ∧ s.size ≤ cs.size) →
      wpList P ops Q rest (a.put o.dst (.slice (some ⟨W.heap.size, 0, none⟩) s.size c)) W1) : wpList P ops Q (o :: rest) a W := by
  have hsize : s.size ≤ (Lib.bytesCells W e s).size := by simp [Lib.bytesCells]
  refine Kd.event_run hgd (v := .slice (some ⟨W.heap.size, 0, none⟩) s.size (grownCap W s.size 0 e)) (w1 := Lib.bytesWorld W e s) ?_ (h _ _ ?_ (bytes_reads W e s hsz) ?_ ?_ ⟨_, _, _, Lib.bytesWorld_at_new W e s, hsize⟩)
  · simp [execOp, ho, hx, print_bytes src dst e hs hd he s W]
  · exact bytes_below (Below.refl _ _) (Nat.le_refl _) e s
  · intro j hj
    simp [World.frozen?, Lib.bytesWorld_at_new]
    omega
  · rw [Lib.bytesWorld_size]; omega
theorem cell_of_reads {w : World} {g n i : Nat} {s : ByteArray} (h : ReadsInt w .u8 (some ⟨g, 0, none⟩) n (bytesOf s)) (hi : i < n) : w.cell? ⟨g, i, none⟩ = some (.int .u8 (bt s (i : Int))) := by
  obtain ⟨ad, e, hc⟩ := h.2.2 (by omega)
  obtain rfl := Option.some.inj e
  have := hc i hi
  rw [add_plain] at this
  rw [this]
  have := rd_bytesOf s (i : Int)
  unfold rd at this
  simp only [Int.toNat_natCast] at this
  rw [this]
theorem reads_set {w : World} {g n : Nat} {xs : List Int} (h : ReadsInt w .u8 (some ⟨g, 0, none⟩) n xs) (i : Nat) (v : Int) (hi : i < n) (hb : ∃ cs t z, w.heap[g]? = some (.cells cs t z) ∧ n ≤ cs.size) :
    ReadsInt (w.setCell ⟨g, i, none⟩ (.int .u8 v)) .u8 (some ⟨g, 0, none⟩) n (xs.set i v) := by
  obtain ⟨cs, t, z, hb, hn⟩ := hb
  refine ⟨by rw [List.length_set]; exact h.1, h.2.1, fun hp => ⟨_, rfl, fun j hj => ?_⟩⟩
  obtain ⟨ad, e, hc⟩ := h.2.2 hp
  obtain rfl := Option.some.inj e
  have hcj := hc j hj
  rw [add_plain] at hcj ⊢
  have hl := h.1
  by_cases hij : i = j
  · subst hij
    have : (xs.set i v).getD i 0 = v := by simp [List.getD_eq_getElem?_getD, hl, hi]
    rw [this]
    have hcs : i < cs.size := by omega
    simp [World.setCell, World.cell?, Array.getElem?_modify, hb, hcs]
  · have : (xs.set i v).getD j 0 = xs.getD j 0 := by simp [List.getD_eq_getElem?_getD, List.getElem?_set, hij]
    rw [this, ← hcj]
    exact World.cell?_setCell_other w ⟨g, i, none⟩ ⟨g, j, none⟩ _ (fun e => hij (by simp at e <;> omega))
set_option maxHeartbeats 1000000 in
theorem torn_walk (b F : ByteArray) (t : Int) (y : Int) (c d : Nat) (w : World) (hw : hopperlaw06_works.f = some true) (hF : frame_Frame.f b = some (F, 0)) (hFs : 8 ≤ F.size) (hFm : F.size ≤ 100000)
    (hc : wrap64 ((IntKind.u64.wrap t).tmod (F.size : Int)) = (c : Int)) (hcl : c < F.size) (hd : wrap64 ((IntKind.u64.wrap t).tmod ((F.size : Int) - 4)) = (d : Int)) (hdl : d + 4 < F.size)
    (hy : (y == 0) = false) (hu1 : frame_Unframe.f (F.extract 0 c) 0 = some (⟨#[]⟩, 0, 0, 61))
    (hu2 : frame_Unframe.f (strOfNums ((bytesOf F).set (4 + d) (Go.bits .xor .u8 (bt F (4 + (d : Int))) y))) 0 = some (⟨#[]⟩, 0, 0, 60)) :
    Calls Try.prog 12 #[.string b, .int .i64 t, .int .u8 y] w fun e w' => e = .returned (.bool true) ∧ Below w.heap.size w w' := by
  have hu63 := Try.underlying63
  have HW := Lib.hid hw
  have HF := Lib.hid hF
  have HU1 := Lib.hid hu1
  have HU2 := Lib.hid hu2
  clear hw hF hu1 hu2
  go_enter Try.func12, Try.ntmps12
  go_wp2_with fail
  refine (hopperlaw06_works.calls true _ HW.out).mono ?_
  rintro e W1 ⟨rfl, hb1⟩
  go_wp2_with fail
  refine (frame_Frame.calls _ _ _ _ HF.out).mono ?_
  rintro e W2 ⟨rfl, hb2⟩
  go_wp2_with fail
  refine (frame_Unframe.calls _ _ _ _ _ _ _ HU1.out).mono ?_
  rintro e W3 ⟨rfl, hb3⟩
  go_wp2_with ((with_reducible refine gate_dst (N := 58) rfl ?_); refine bytes_step rfl 9 23 5 _ rfl F rfl Try.underlying9 Try.underlying23 Try.underlying5 (by omega) ?_; intro W4 cap hb4 hr4 hf4 hg4 hk4; have hz : (W3.alloc (Obj.cells #[Value.int IntKind.i64 0, Value.int IntKind.i64 61] 63)).heap.size = W3.heap.size + 1 := (by simp); rw [hz] at hb4 hr4 hf4 hg4 hk4 ⊢; have hcell : W4.cell? ⟨W3.heap.size + 1, 4 + d, none⟩ = some (.int .u8 (bt F (4 + (d : Int)))) := (by have h_ := cell_of_reads hr4 (show 4 + d < F.size by omega); rw [show ((4 + d : Nat) : Int) = 4 + (d : Int) from by omega] at h_; exact h_); have hfz := hf4 (4 + d) (by omega); have hcv : (convert 23 9 (.slice (some ⟨W3.heap.size + 1, 0, none⟩) F.size cap)).run Try.prog (W4.setCell ⟨W3.heap.size + 1, 4 + d, none⟩ (.int .u8 (Go.bits .xor .u8 (bt F (4 + (d : Int))) y))) = .ok (.string (strOfNums ((bytesOf F).set (4 + d) (Go.bits .xor .u8 (bt F (4 + (d : Int))) y)))) _ := string_of_reads Try.underlying23 Try.underlying5 Try.underlying9 (reads_set hr4 (4 + d) _ (by omega) hk4); have HZ := Lib.hid hz; have HR4 := Lib.hid hr4; have HF4 := Lib.hid hf4; have HK4 := Lib.hid hk4; have HB4 := Lib.hid hb4; clear hz hr4 hf4 hk4 hb4)
  refine (frame_Unframe.calls _ _ _ _ _ _ _ HU2.out).mono ?_
  rintro e W5 ⟨rfl, hb5⟩
  go_wp2
  have b3 : Below w.heap.size w W3 := below_step (below_step hb1 hb2) hb3
  have b4 : Below w.heap.size w W4 := below_step (below_alloc b3 (.cells #[.int .i64 0, .int .i64 61] 63)) (by rw [HZ.out]; exact HB4.out)
  have b5 := below_step (b4.setCell (p := ⟨W3.heap.size + 1, 4 + d, none⟩) (Nat.le_succ_of_le b3.size) (.int .u8 (Go.bits .xor .u8 (bt F (4 + (d : Int))) y))) hb5
  go_ret
  exact ⟨rfl, below_alloc b5 _⟩
set_option maxHeartbeats 1000000 in
theorem torn_walk0 (b F : ByteArray) (t : Int) (c d : Nat) (w : World) (hw : hopperlaw06_works.f = some true) (hF : frame_Frame.f b = some (F, 0)) (hFs : 8 ≤ F.size) (hFm : F.size ≤ 100000)
    (hc : wrap64 ((IntKind.u64.wrap t).tmod (F.size : Int)) = (c : Int)) (hcl : c < F.size) (hd : wrap64 ((IntKind.u64.wrap t).tmod ((F.size : Int) - 4)) = (d : Int)) (hdl : d + 4 < F.size)
    (hu1 : frame_Unframe.f (F.extract 0 c) 0 = some (⟨#[]⟩, 0, 0, 61))
    (hu2 : frame_Unframe.f (strOfNums ((bytesOf F).set (4 + d) (Go.bits .xor .u8 (bt F (4 + (d : Int))) 1))) 0 = some (⟨#[]⟩, 0, 0, 60)) :
    Calls Try.prog 12 #[.string b, .int .i64 t, .int .u8 0] w fun e w' => e = .returned (.bool true) ∧ Below w.heap.size w w' := by
  have hu63 := Try.underlying63
  have HW := Lib.hid hw
  have HF := Lib.hid hF
  have HU1 := Lib.hid hu1
  have HU2 := Lib.hid hu2
  clear hw hF hu1 hu2
  go_enter Try.func12, Try.ntmps12
  go_wp2_with fail
  refine (hopperlaw06_works.calls true _ HW.out).mono ?_
  rintro e W1 ⟨rfl, hb1⟩
  go_wp2_with fail
  refine (frame_Frame.calls _ _ _ _ HF.out).mono ?_
  rintro e W2 ⟨rfl, hb2⟩
  go_wp2_with fail
  refine (frame_Unframe.calls _ _ _ _ _ _ _ HU1.out).mono ?_
  rintro e W3 ⟨rfl, hb3⟩
  go_wp2_with ((with_reducible refine gate_dst (N := 58) rfl ?_); refine bytes_step rfl 9 23 5 _ rfl F rfl Try.underlying9 Try.underlying23 Try.underlying5 (by omega) ?_; intro W4 cap hb4 hr4 hf4 hg4 hk4; have hz : (W3.alloc (Obj.cells #[Value.int IntKind.i64 0, Value.int IntKind.i64 61] 63)).heap.size = W3.heap.size + 1 := (by simp); rw [hz] at hb4 hr4 hf4 hg4 hk4 ⊢; have hcell : W4.cell? ⟨W3.heap.size + 1, 4 + d, none⟩ = some (.int .u8 (bt F (4 + (d : Int)))) := (by have h_ := cell_of_reads hr4 (show 4 + d < F.size by omega); rw [show ((4 + d : Nat) : Int) = 4 + (d : Int) from by omega] at h_; exact h_); have hfz := hf4 (4 + d) (by omega); have hcv : (convert 23 9 (.slice (some ⟨W3.heap.size + 1, 0, none⟩) F.size cap)).run Try.prog (W4.setCell ⟨W3.heap.size + 1, 4 + d, none⟩ (.int .u8 (Go.bits .xor .u8 (bt F (4 + (d : Int))) 1))) = .ok (.string (strOfNums ((bytesOf F).set (4 + d) (Go.bits .xor .u8 (bt F (4 + (d : Int))) 1)))) _ := string_of_reads Try.underlying23 Try.underlying5 Try.underlying9 (reads_set hr4 (4 + d) _ (by omega) hk4); have HZ := Lib.hid hz; have HR4 := Lib.hid hr4; have HF4 := Lib.hid hf4; have HK4 := Lib.hid hk4; have HB4 := Lib.hid hb4; clear hz hr4 hf4 hk4 hb4)
  refine (frame_Unframe.calls _ _ _ _ _ _ _ HU2.out).mono ?_
  rintro e W5 ⟨rfl, hb5⟩
  go_wp2
  have b3 : Below w.heap.size w W3 := below_step (below_step hb1 hb2) hb3
  have b4 : Below w.heap.size w W4 := below_step (below_alloc b3 (.cells #[.int .i64 0, .int .i64 61] 63)) (by rw [HZ.out]; exact HB4.out)
  have b5 := below_step (b4.setCell (p := ⟨W3.heap.size + 1, 4 + d, none⟩) (Nat.le_succ_of_le b3.size) (.int .u8 (Go.bits .xor .u8 (bt F (4 + (d : Int))) 1))) hb5
  go_ret
  exact ⟨rfl, below_alloc b5 _⟩
set_option maxHeartbeats 1000000 in
theorem torn_long (b : ByteArray) (t y : Int) (w : World) (hw : hopperlaw06_works.f = some true) (hF : frame_Frame.f b = some (⟨#[]⟩, 2)) :
    Calls Try.prog 12 #[.string b, .int .i64 t, .int .u8 y] w fun e w' => e = .returned (.bool true) ∧ Below w.heap.size w w' := by
  have hu63 := Try.underlying63
  have HW := Lib.hid hw
  have HF := Lib.hid hF
  clear hw hF
  go_enter Try.func12, Try.ntmps12
  go_wp2_with fail
  refine (hopperlaw06_works.calls true _ HW.out).mono ?_
  rintro e W1 ⟨rfl, hb1⟩
  go_wp2_with fail
  refine (frame_Frame.calls _ _ _ _ HF.out).mono ?_
  rintro e W2 ⟨rfl, hb2⟩
  go_wp2
  go_ret
  exact ⟨rfl, below_step hb1 hb2⟩
end Go.Proofs.Ytmfbmagbpceomaa.HFrameTorn
