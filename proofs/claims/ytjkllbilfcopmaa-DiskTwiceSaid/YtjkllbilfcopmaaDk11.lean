import Derived.Test.YtjkllbilfcopmaaDk10
namespace Go.Proofs.Ytjkllbilfcopmaa.Dk
open Go.RowKit Go.Proofs.YtjkllbilfcopmaaW.PrintWords Go.Proofs.YtjkllbilfcopmaaW.PrintLast Go.Proofs.YtjkllbilfcopmaaW.PrintMore
set_option linter.unusedVariables false
set_option linter.unusedSimpArgs false
/-- A disk that the call itself has made. -/
structure At (w0 W : World) (g b : Nat) (d : DS) : Prop where
  dk : IsDk W g b d
  geg : w0.heap.size ≤ g
  geb : w0.heap.size ≤ b
  bel : Below w0.heap.size w0 W
theorem At.two {w0 W : World} {g b : Nat} {d : DS} (h : At w0 W g b d) : ∀ k, Two g b k → w0.heap.size ≤ k := fun k hk => by
  rcases hk with rfl | rfl
  · exact h.geg
  · exact h.geb
theorem At.step {w0 W W1 : World} {g b : Nat} {d d1 : DS} (h : At w0 W g b d) (hI : IsDk W1 g b d1) (hf : Fr (Two g b) W W1) : At w0 W1 g b d1 := ⟨hI, h.geg, h.geb, hf.below h.bel h.two⟩
theorem At.below {w0 W W1 : World} {g b : Nat} {d : DS} (h : At w0 W g b d) (hb : Below W.heap.size W W1) : At w0 W1 g b d := ⟨h.dk.below hb, h.geg, h.geb, below_step h.bel hb⟩
theorem At.alloc {w0 W : World} {g b : Nat} {d : DS} (h : At w0 W g b d) (o : Obj) : At w0 (W.alloc o) g b d := h.below (below_alloc (Below.refl _ _) o)
theorem new_at (w0 W : World) (hB : Below w0.heap.size w0 W) : Calls Try.prog 9 #[] W fun e W' => ∃ g b, e = .returned (.pointer (some ⟨g, 0, none⟩)) ∧ At w0 W' g b new :=
  (new_walk W).mono fun e W' ⟨he, hI, hb⟩ => ⟨_, _, he, hI, by have := hB.size; omega, hB.size, below_step hB hb⟩
section
variable {w0 W : World} {g b : Nat} {d : DS}
theorem append_at (h : At w0 W g b d) (s t : ByteArray) (hs : s.size ≤ maxLen) (ht : t.size ≤ 140737488351232) : Calls Try.prog 11 #[.pointer (some ⟨g, 0, none⟩), .string s, .string t] W fun e W' => e = .returned (.int .i64 (append d s t).2) ∧ At w0 W' g b (append d s t).1 :=
  (append_walk W g b d h.dk s t hs ht).mono fun e W' ⟨he, hI, hf⟩ => ⟨he, h.step hI hf⟩
theorem sync_at (h : At w0 W g b d) (s : ByteArray) (hs : s.size ≤ maxLen) : Calls Try.prog 12 #[.pointer (some ⟨g, 0, none⟩), .string s] W fun e W' => e = .returned (.int .i64 (sync d s).2) ∧ At w0 W' g b (sync d s).1 :=
  (sync_walk W g b d h.dk s hs).mono fun e W' ⟨he, hI, hf⟩ => ⟨he, h.step hI hf⟩
theorem rename_at (h : At w0 W g b d) (s t : ByteArray) (hs : s.size ≤ maxLen) (ht : t.size ≤ maxLen) : Calls Try.prog 17 #[.pointer (some ⟨g, 0, none⟩), .string s, .string t] W fun e W' => e = .returned (.int .i64 (rename d s t).2) ∧ At w0 W' g b (rename d s t).1 :=
  (rename_walk W g b d h.dk s t hs ht).mono fun e W' ⟨he, hI, hf⟩ => ⟨he, h.step hI hf⟩
theorem fuse_at (h : At w0 W g b d) (n : Int) (hn : n ≤ 9223372036854775807) : Calls Try.prog 16 #[.pointer (some ⟨g, 0, none⟩), .int .i64 n] W fun e W' => e = .returned (.int .i64 (fuse d n).2) ∧ At w0 W' g b (fuse d n).1 :=
  (fuse_walk W g b d h.dk n hn).mono fun e W' ⟨he, hI, hf⟩ => ⟨he, h.step hI hf⟩
theorem read_at (h : At w0 W g b d) (s : ByteArray) (hs : s.size ≤ maxLen) : Calls Try.prog 14 #[.pointer (some ⟨g, 0, none⟩), .string s] W fun e W' => e = .returned (.tuple #[.string (read d s).1, .int .i64 (read d s).2]) ∧ At w0 W' g b d :=
  (read_walk W g b d h.dk s hs).mono fun e W' ⟨he, hb⟩ => ⟨he, h.below hb⟩
theorem crash_at (h : At w0 W g b d) (A : Option Addr) (dr : List Int) (c : Nat) (hA : IntsAt (Two g b) W A dr) (hc : dr.length ≤ c) (hcm : c ≤ maxLen) (hdr : ∀ x ∈ dr, -9223372036854775808 ≤ x ∧ x ≤ 9223372036854775807) :
    Calls Try.prog 13 #[.pointer (some ⟨g, 0, none⟩), .slice A dr.length c] W fun e W' => e = .returned (.int .i64 (crash d dr).2) ∧ At w0 W' g b (crash d dr).1 ∧ Fr (Two g b) W W' :=
  (crash_walk W g b d h.dk A dr c hA hc hcm hdr).mono fun e W' ⟨he, hI, hf⟩ => ⟨he, h.step hI hf, hf⟩
/-- A slice of one number. -/
theorem one_int (h : At w0 W g b d) (x : Int) : IntsAt (Two g b) (W.alloc (.cells #[.int .i64 x] 3)) (some ⟨W.heap.size, 0, none⟩) [x] := by
  refine ⟨by simp [maxLen], fun _ => ⟨_, rfl, ?_, by simp, fun j hj => ?_⟩⟩
  · have := h.dk.lt
    rintro (e | e)
    · have e' : W.heap.size = g := e
      omega
    · have e' : W.heap.size = b := e
      omega
  · have : j = 0 := by simpa using hj
    subst this
    rw [add_plain, blk_cell (heap_alloc_new W _) 0]
    rfl
theorem none_ints (S : Nat → Prop) (W : World) : IntsAt S W none [] := ⟨by simp, fun h => absurd h (by simp)⟩
end
theorem works_torn : torn ⟨⟨#[120]⟩ ++ ⟨#[121, 122]⟩, 1⟩ 1 = ⟨⟨#[120, 121]⟩, 2⟩ := by rfl
set_option maxRecDepth 100000 in
set_option maxHeartbeats 4000000 in
theorem works_walk (W : World) : Calls Try.prog 10 #[] W fun e W' => e = .returned (.bool true) ∧ Below W.heap.size W W' := by
  go_enter Try.func10, Try.ntmps10
  go_wp2_with fail
  refine (new_at W W (Below.refl _ _)).mono ?_
  rintro e W1 ⟨g, b, rfl, hA⟩
  have HA := Lib.hid hA
  clear hA
  go_wp2_with fail
  refine (append_at HA.out nA ⟨#[120]⟩ (by decide) (by decide)).mono ?_
  rw [app_new _ (by decide)]
  rintro e W2 ⟨rfl, hA⟩
  have HA2 := Lib.hid hA
  clear hA
  go_wp2_with fail
  refine (sync_at HA2.out nA (by decide)).mono ?_
  rw [sync_one]
  rintro e W3 ⟨rfl, hA⟩
  have HA3 := Lib.hid hA
  clear hA
  go_wp2_with fail
  refine (append_at HA3.out nA ⟨#[121, 122]⟩ (by decide) (by decide)).mono ?_
  rw [app_one _ _ _ (by decide)]
  rintro e W4 ⟨rfl, hA⟩
  have HA4 := Lib.hid hA
  clear hA
  go_wp2_with fail
  refine (crash_at (HA4.out.alloc (.cells #[.int .i64 1] 3)) (some ⟨W4.heap.size, 0, none⟩) [1] 1 (one_int HA4.out 1) (Nat.le_refl _) (by decide) (by simp)).mono ?_
  rw [crash_one]
  rintro e W5 ⟨rfl, hA, -⟩
  rw [if_neg (by decide), show ((⟨#[120]⟩ : ByteArray).size : Int) = 1 from rfl, works_torn] at hA
  have HA5 := Lib.hid hA
  clear hA
  go_wp2_with fail
  refine (read_at HA5.out nA (by decide)).mono ?_
  rw [read_one]
  rintro e W6 ⟨rfl, hA⟩
  have HA6 := Lib.hid hA
  clear hA
  go_wp2
  go_ret
  exact ⟨rfl, HA6.out.bel⟩
end Go.Proofs.Ytjkllbilfcopmaa.Dk
