import Derived.Test.YtjehbnhjaogfkaaSc10
namespace Go.Proofs.Ytjehbnhjaogfkaa.Sc
open Go.RowKit Go.Lib Go.Proofs.YtjehbnhjaogfkaaW.PrintWords Go.Proofs.YtjehbnhjaogfkaaW.PrintLast Go.Proofs.YtjehbnhjaogfkaaW.PrintMore
open Go.Proofs.Ytjehbnhjaogfkaa
set_option linter.unusedVariables false
set_option linter.unusedSimpArgs false
def encC (c : Col) : List UInt8 := txt c.nm ++ num8 c.kd
theorem num8_len (n : Int) : (num8 n).length = 8 := le_len 8 n
theorem txt_len (s : ByteArray) : (txt s).length = 8 + s.size := by unfold txt; rw [List.length_append, num8_len]; rfl
theorem encC_len (c : Col) : (encC c).length = 16 + c.nm.size := by unfold encC; rw [List.length_append, num8_len, txt_len]; omega
def inR (n : Int) : Prop := -9223372036854775808 ≤ n ∧ n ≤ 9223372036854775807
theorem place_walk (base : Nat) (W : World) (g : Nat) (bs : List UInt8) (bad : Bool) (n : Int) (h : Wr base W g bs bad) (hbase : base ≤ W.heap.size) (hl : bs.length ≤ 1000000000) (hn : inR n) :
    Calls Try.prog 85 #[.pointer (some ⟨g, 0, none⟩), .int .i64 n] W fun e W' => e = .returned (.tuple #[]) ∧ Wr base W' g (bs ++ num8 n) bad ∧ KT base g W W' := by
  have H0 := Aside0.mk h
  have HN := Aside0.mk hn
  clear h hn
  go_enter Try.func85, Try.ntmps85
  go_wp2_with (go_at_call 70; refine (number_walk base _ g bs bad _ H0.out hbase hl HN.out).mono ?_; rintro e w1 ⟨rfl, h1, hk1⟩; have H1 := Aside0.mk h1; have K1 := Aside0.mk hk1; clear h1 hk1)
  go_end0
  exact ⟨rfl, H1.out, K1.out⟩
set_option maxHeartbeats 1000000 in
theorem column_walk (base : Nat) (W : World) (g : Nat) (bs : List UInt8) (bad : Bool) (c : Col) (h : Wr base W g bs bad) (hbase : base ≤ W.heap.size) (hl : bs.length + 8 ≤ 65536) (hs : c.nm.size ≤ 100000) (hn : inR c.kd) :
    Calls Try.prog 66 #[.pointer (some ⟨g, 0, none⟩), .agg #[.string c.nm, .int .i64 c.kd]] W fun e W' => e = .returned (.tuple #[]) ∧ Wr base W' g (bs ++ encC c) bad ∧ KT base g W W' := by
  obtain ⟨nm, kd⟩ := c
  simp only at hs hn ⊢
  have H0 := Aside0.mk (h.below (below_alloc (Below.refl _ _) (.cells #[.string nm, .int .i64 kd] 32)))
  have K0 := Aside0.mk (KT.of_below (base := base) (g := g) (below_alloc (Below.refl _ W) (.cells #[.string nm, .int .i64 kd] 32)))
  have HN := Aside0.mk hn
  have hgl := h.lt
  have HB := Aside0.mk (heap_alloc_new W (.cells #[.string nm, .int .i64 kd] 32))
  have hbase1 : base ≤ (W.alloc (.cells #[.string nm, .int .i64 kd] 32)).heap.size := Nat.le_trans hbase K0.out.size
  clear h hn
  go_enter Try.func66, Try.ntmps66
  go_wp2_with (first
    | (go_at_call 68; refine (text_walk base _ g bs bad nm H0.out hbase1 hl (by omega)).mono ?_; rintro e w1 ⟨rfl, h1, hk1⟩; have b1 := hk1.cells HB.out (by decide) (by omega); have c1 : w1.cell? ⟨W.heap.size, 1, none⟩ = some (.int .i64 kd) := (blk_cell b1 1).trans rfl; have H1 := Aside0.mk h1; have K1 := Aside0.mk (K0.out.trans hk1); clear h1 hk1 b1)
    | (go_at_call 70; refine (number_walk base _ g _ bad _ H1.out (Nat.le_trans hbase K1.out.size) (by rw [List.length_append, txt_len]; omega) HN.out).mono ?_; rintro e w2 ⟨rfl, h2, hk2⟩; have H2 := Aside0.mk h2; have K2 := Aside0.mk (K1.out.trans hk2); clear h2 hk2))
  go_end0
  refine ⟨rfl, ?_, K2.out⟩
  have := H2.out
  rw [List.append_assoc] at this
  exact this
set_option maxHeartbeats 1000000 in
theorem flag_walk (base : Nat) (W : World) (g : Nat) (bs : List UInt8) (bad : Bool) (x : Bool) (h : Wr base W g bs bad) (hbase : base ≤ W.heap.size) (hl : bs.length ≤ 1000000000) :
    Calls Try.prog 87 #[.pointer (some ⟨g, 0, none⟩), .bool x] W fun e W' => e = .returned (.tuple #[]) ∧ Wr base W' g (bs ++ [if x then 1 else 0]) bad ∧ KT base g W W' := by
  obtain ⟨A, c, c0, c1, f0, f1, hown⟩ := h.cell
  have HO := Aside0.mk hown
  have H0 := Aside0.mk h
  clear hown h
  cases x
  all_goals (
    go_enter Try.func87, Try.ntmps87
    go_wp2_with (first
      | ((with_reducible refine gate_builtin (b := .append) (xs := #[.tmp 10, .tmp 12]) rfl ?_); at_builtin; refine print_append_cells (w0 := W) base rfl (.tmp 10) (.tmp 12) 74 5 (.int .u8 0) 1 1 rfl Try.underlying74 info5 rfl (by decide) (by decide) (.slice A bs.length c) bs.length (bv bs) [.int .u8 0] rfl rfl rfl (by simp [Value.oneCell']) HO.out (Below.refl _ _) hbase (by omega) ?_; intro v1 w1 ho1 hb1 hg1 hat1; obtain ⟨A1, k1, rfl⟩ := own_shape ho1; obtain ⟨y1, y2⟩ := H0.out.after HO.out hg1; rw [c0] at y1; have HO1 := Aside0.mk ho1; have HG1 := Aside0.mk hg1; clear ho1 hb1 hg1 hat1)
      | ((with_reducible refine gate_builtin (b := .append) (xs := #[.tmp 10, .tmp 12]) rfl ?_); at_builtin; refine print_append_cells (w0 := W) base rfl (.tmp 10) (.tmp 12) 74 5 (.int .u8 0) 1 1 rfl Try.underlying74 info5 rfl (by decide) (by decide) (.slice A bs.length c) bs.length (bv bs) [.int .u8 1] rfl rfl rfl (by simp [Value.oneCell']) HO.out (Below.refl _ _) hbase (by omega) ?_; intro v1 w1 ho1 hb1 hg1 hat1; obtain ⟨A1, k1, rfl⟩ := own_shape ho1; obtain ⟨y1, y2⟩ := H0.out.after HO.out hg1; rw [c0] at y1; have HO1 := Aside0.mk ho1; have HG1 := Aside0.mk hg1; clear ho1 hb1 hg1 hat1)))
  · have ho1 := HO1.out
    have e1 : bv bs ++ [Value.int .u8 0] = bv (bs ++ [0]) := by rw [bv_app]; rfl
    have e2 : bs.length + 1 = (bs ++ [(0 : UInt8)]).length := by simp
    rw [e1, e2] at ho1
    obtain ⟨q1, q2⟩ := H0.out.put HO.out hbase ho1 HG1.out
    rw [← e2] at q1 q2
    go_end0
    exact ⟨rfl, q1, q2⟩
  · have ho1 := HO1.out
    have e1 : bv bs ++ [Value.int .u8 1] = bv (bs ++ [1]) := by rw [bv_app]; rfl
    have e2 : bs.length + 1 = (bs ++ [(1 : UInt8)]).length := by simp
    rw [e1, e2] at ho1
    obtain ⟨q1, q2⟩ := H0.out.put HO.out hbase ho1 HG1.out
    rw [← e2] at q1 q2
    go_end0
    exact ⟨rfl, q1, q2⟩
end Go.Proofs.Ytjehbnhjaogfkaa.Sc
