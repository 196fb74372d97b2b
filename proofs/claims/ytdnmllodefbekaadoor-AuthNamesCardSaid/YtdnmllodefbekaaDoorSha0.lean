import Derived.Test.YtdnmllodefbekaaDoorPShaSumsx0
import Derived.LoopTactic
import Derived.WalkMore
import Derived.Lib.Hide
import Derived.WalkSpells
import Derived.BigRegion
import Derived.Deep.RegionLaw
namespace Go.Proofs.YtdnmllodefbekaaDoor.Sha
open Go.RowKit Go.Proofs.YtdnmllodefbekaaDoorW.PrintWords Go.Proofs.YtdnmllodefbekaaDoorW.PrintLast Go.Proofs.YtdnmllodefbekaaDoorW.PrintMore
set_option linter.unusedVariables false
set_option linter.unusedSimpArgs false
/-- A word turned: to the left by a = 2^(32-n), to the right by b = 2^n. -/
def ror (a b x : Int) : Int := Go.bits .or .u32 (x * a % 4294967296) (x / b)
theorem rot2 (x : Int) (w : World) : Calls Tryd.prog 64 #[.int .u32 x, .int .i64 (-2)] w fun e w' => e = .returned (.int .u32 (ror 1073741824 4 x)) ∧ w = w' := by
  have h1 : Go.bits .and .u64 (IntKind.u64.wrap (-2)) 31 = 30 := by decide
  go_enter Tryd.func64, Tryd.ntmps64
  go_wp2
  go_ret
  exact ⟨rfl, rfl⟩
theorem rot6 (x : Int) (w : World) : Calls Tryd.prog 64 #[.int .u32 x, .int .i64 (-6)] w fun e w' => e = .returned (.int .u32 (ror 67108864 64 x)) ∧ w = w' := by
  have h1 : Go.bits .and .u64 (IntKind.u64.wrap (-6)) 31 = 26 := by decide
  go_enter Tryd.func64, Tryd.ntmps64
  go_wp2
  go_ret
  exact ⟨rfl, rfl⟩
theorem rot7 (x : Int) (w : World) : Calls Tryd.prog 64 #[.int .u32 x, .int .i64 (-7)] w fun e w' => e = .returned (.int .u32 (ror 33554432 128 x)) ∧ w = w' := by
  have h1 : Go.bits .and .u64 (IntKind.u64.wrap (-7)) 31 = 25 := by decide
  go_enter Tryd.func64, Tryd.ntmps64
  go_wp2
  go_ret
  exact ⟨rfl, rfl⟩
theorem rot11 (x : Int) (w : World) : Calls Tryd.prog 64 #[.int .u32 x, .int .i64 (-11)] w fun e w' => e = .returned (.int .u32 (ror 2097152 2048 x)) ∧ w = w' := by
  have h1 : Go.bits .and .u64 (IntKind.u64.wrap (-11)) 31 = 21 := by decide
  go_enter Tryd.func64, Tryd.ntmps64
  go_wp2
  go_ret
  exact ⟨rfl, rfl⟩
theorem rot13 (x : Int) (w : World) : Calls Tryd.prog 64 #[.int .u32 x, .int .i64 (-13)] w fun e w' => e = .returned (.int .u32 (ror 524288 8192 x)) ∧ w = w' := by
  have h1 : Go.bits .and .u64 (IntKind.u64.wrap (-13)) 31 = 19 := by decide
  go_enter Tryd.func64, Tryd.ntmps64
  go_wp2
  go_ret
  exact ⟨rfl, rfl⟩
theorem rot17 (x : Int) (w : World) : Calls Tryd.prog 64 #[.int .u32 x, .int .i64 (-17)] w fun e w' => e = .returned (.int .u32 (ror 32768 131072 x)) ∧ w = w' := by
  have h1 : Go.bits .and .u64 (IntKind.u64.wrap (-17)) 31 = 15 := by decide
  go_enter Tryd.func64, Tryd.ntmps64
  go_wp2
  go_ret
  exact ⟨rfl, rfl⟩
theorem rot18 (x : Int) (w : World) : Calls Tryd.prog 64 #[.int .u32 x, .int .i64 (-18)] w fun e w' => e = .returned (.int .u32 (ror 16384 262144 x)) ∧ w = w' := by
  have h1 : Go.bits .and .u64 (IntKind.u64.wrap (-18)) 31 = 14 := by decide
  go_enter Tryd.func64, Tryd.ntmps64
  go_wp2
  go_ret
  exact ⟨rfl, rfl⟩
theorem rot19 (x : Int) (w : World) : Calls Tryd.prog 64 #[.int .u32 x, .int .i64 (-19)] w fun e w' => e = .returned (.int .u32 (ror 8192 524288 x)) ∧ w = w' := by
  have h1 : Go.bits .and .u64 (IntKind.u64.wrap (-19)) 31 = 13 := by decide
  go_enter Tryd.func64, Tryd.ntmps64
  go_wp2
  go_ret
  exact ⟨rfl, rfl⟩
theorem rot22 (x : Int) (w : World) : Calls Tryd.prog 64 #[.int .u32 x, .int .i64 (-22)] w fun e w' => e = .returned (.int .u32 (ror 1024 4194304 x)) ∧ w = w' := by
  have h1 : Go.bits .and .u64 (IntKind.u64.wrap (-22)) 31 = 10 := by decide
  go_enter Tryd.func64, Tryd.ntmps64
  go_wp2
  go_ret
  exact ⟨rfl, rfl⟩
theorem rot25 (x : Int) (w : World) : Calls Tryd.prog 64 #[.int .u32 x, .int .i64 (-25)] w fun e w' => e = .returned (.int .u32 (ror 128 33554432 x)) ∧ w = w' := by
  have h1 : Go.bits .and .u64 (IntKind.u64.wrap (-25)) 31 = 7 := by decide
  go_enter Tryd.func64, Tryd.ntmps64
  go_wp2
  go_ret
  exact ⟨rfl, rfl⟩
theorem quiet_add {P : Program} {f : FuncId} {args : Array Value} {w : World} {a n : Nat} {v : Value}
    (h : Calls P f args (w.drewN (a + n)) fun e w' => e = .returned v ∧ Drawn0 (w.drewN (a + n)) w') :
    Calls P f args (w.drewN (a + n)) fun e w'' => e = .returned v ∧ ∃ m, w'' = w.drewN (a + m) :=
  h.mono fun _ _ ⟨he, hd⟩ => by
    obtain ⟨m, hm⟩ := hd.out
    exact ⟨he, n + m, by rw [hm, World.drewN_drewN, Nat.add_assoc]⟩
theorem quiet_one {P : Program} {f : FuncId} {args : Array Value} {w : World} {n : Nat} {v : Value}
    (h : Calls P f args (w.drewN n) fun e w' => e = .returned v ∧ Drawn0 (w.drewN n) w') :
    Calls P f args (w.drewN n) fun e w'' => e = .returned v ∧ ∃ m, w'' = w.drewN m :=
  h.mono fun _ _ ⟨he, hd⟩ => by
    obtain ⟨m, hm⟩ := hd.out
    exact ⟨he, n + m, by rw [hm, World.drewN_drewN]⟩
theorem same_d {P : Program} {f : FuncId} {args : Array Value} {w : World} {v : Value} (h : Calls P f args w fun e w' => e = .returned v ∧ w = w') : Calls P f args w fun e w' => e = .returned v ∧ Drawn0 w w' :=
  h.mono fun _ _ ⟨he, hw⟩ => ⟨he, by subst hw; exact Drawn0.refl _⟩
def rotI (k x : Int) : Int := ror (2 ^ (32 - (-k).toNat)) (2 ^ (-k).toNat) x
theorem rot_calls (x k : Int) (w : World) (hk : k = -2 ∨ k = -6 ∨ k = -7 ∨ k = -11 ∨ k = -13 ∨ k = -17 ∨ k = -18 ∨ k = -19 ∨ k = -22 ∨ k = -25) : Calls Tryd.prog 64 #[.int .u32 x, .int .i64 k] w fun e w' => e = .returned (.int .u32 (rotI k x)) ∧ w = w' := by
  rcases hk with rfl | rfl | rfl | rfl | rfl | rfl | rfl | rfl | rfl | rfl
  · exact rot2 x w
  · exact rot6 x w
  · exact rot7 x w
  · exact rot11 x w
  · exact rot13 x w
  · exact rot17 x w
  · exact rot18 x w
  · exact rot19 x w
  · exact rot22 x w
  · exact rot25 x w
def bigE (x : Int) : Int := Go.bits .xor .u32 (Go.bits .xor .u32 (ror 67108864 64 x) (ror 2097152 2048 x)) (ror 128 33554432 x)
theorem bigE_calls (x : Int) (w : World) : Calls Tryd.prog 59 #[.int .u32 x, .int .i64 6, .int .i64 11, .int .i64 25] w fun e w' => e = .returned (.int .u32 (bigE x)) ∧ w = w' := by
  go_enter Tryd.func59, Tryd.ntmps59
  go_wp2_with (first | (go_at_call 64; (with_reducible refine (rot6 _ _).mono ?_); rintro e w' ⟨rfl, rfl⟩) | (go_at_call 64; (with_reducible refine (rot11 _ _).mono ?_); rintro e w' ⟨rfl, rfl⟩) | (go_at_call 64; (with_reducible refine (rot25 _ _).mono ?_); rintro e w' ⟨rfl, rfl⟩))
  go_ret
  exact ⟨rfl, rfl⟩
def bigA (x : Int) : Int := Go.bits .xor .u32 (Go.bits .xor .u32 (ror 1073741824 4 x) (ror 524288 8192 x)) (ror 1024 4194304 x)
theorem bigA_calls (x : Int) (w : World) : Calls Tryd.prog 59 #[.int .u32 x, .int .i64 2, .int .i64 13, .int .i64 22] w fun e w' => e = .returned (.int .u32 (bigA x)) ∧ w = w' := by
  go_enter Tryd.func59, Tryd.ntmps59
  go_wp2_with (first | (go_at_call 64; (with_reducible refine (rot2 _ _).mono ?_); rintro e w' ⟨rfl, rfl⟩) | (go_at_call 64; (with_reducible refine (rot13 _ _).mono ?_); rintro e w' ⟨rfl, rfl⟩) | (go_at_call 64; (with_reducible refine (rot22 _ _).mono ?_); rintro e w' ⟨rfl, rfl⟩))
  go_ret
  exact ⟨rfl, rfl⟩
def smaW (x : Int) : Int := Go.bits .xor .u32 (Go.bits .xor .u32 (ror 32768 131072 x) (ror 8192 524288 x)) (x / 1024)
theorem smaW_calls (x : Int) (w : World) : Calls Tryd.prog 58 #[.int .u32 x, .int .i64 17, .int .i64 19, .int .i64 10] w fun e w' => e = .returned (.int .u32 (smaW x)) ∧ Drawn0 w w' := by
  go_enter Tryd.func58, Tryd.ntmps58
  have n1 : IntKind.i64.wrap (-17) = -17 := by decide
  have n2 : IntKind.i64.wrap (-19) = -19 := by decide
  go_wp2_with fail
  go_quiet ((go_at_call 64; first | exact quiet_one (same_d (rot_calls _ _ _ (by decide))) | exact quiet_add (same_d (rot_calls _ _ _ (by decide)))))
  go_wp2
  go_ret
  exact ⟨rfl, ⟨_, rfl⟩⟩
def smaV (x : Int) : Int := Go.bits .xor .u32 (Go.bits .xor .u32 (ror 33554432 128 x) (ror 16384 262144 x)) (x / 8)
theorem smaV_calls (x : Int) (w : World) : Calls Tryd.prog 58 #[.int .u32 x, .int .i64 7, .int .i64 18, .int .i64 3] w fun e w' => e = .returned (.int .u32 (smaV x)) ∧ Drawn0 w w' := by
  go_enter Tryd.func58, Tryd.ntmps58
  have n1 : IntKind.i64.wrap (-7) = -7 := by decide
  have n2 : IntKind.i64.wrap (-18) = -18 := by decide
  go_wp2_with fail
  go_quiet ((go_at_call 64; first | exact quiet_one (same_d (rot_calls _ _ _ (by decide))) | exact quiet_add (same_d (rot_calls _ _ _ (by decide)))))
  go_wp2
  go_ret
  exact ⟨rfl, ⟨_, rfl⟩⟩
end Go.Proofs.YtdnmllodefbekaaDoor.Sha
