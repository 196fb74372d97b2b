import Derived.Test.YtmfbmagbpceomaaWireBad0
namespace Go.Proofs.Ytmfbmagbpceomaa.Wire
open Go.RowKit Go.Proofs.YtmfbmagbpceomaaW.PrintWords Go.Proofs.YtmfbmagbpceomaaW.PrintLast Go.Proofs.YtmfbmagbpceomaaW.PrintMore
set_option linter.unusedVariables false
set_option linter.unusedSimpArgs false
/-- A row of texts was written: the reader stands. -/
theorem St.grown {w0 W W1 : World} {g base : Nat} {kept : List Int} {bad : Bool} {ok : Nat → Prop} {v : Value} {xs : List ByteArray} (h : St w0 W g kept bad) (hR : Kd.R Kd.string 9 W base ok v xs) (hg : W.grownBy W1 v.ownBlock) : St w0 W1 g kept bad := by
  obtain ⟨hge, kv, h1, h2⟩ := h
  have hr := Kd.own_of_R hR
  have hty : ∀ k cs t, v.ownBlock = some k → W.heap[k]? = some (.cells cs t (0, 0)) → t = 9 := fun k cs t hk hc => by
    obtain ⟨c', hc'⟩ := own_typed hr k hk
    rw [hc] at hc'; injection hc' with hc'; injection hc'
  refine ⟨hge, kv, (hg.block g (blk_lt h1) fun e => absurd (hty g _ _ e.symm h1) (by decide)).trans h1, own_move h2 fun k hk => ?_⟩
  obtain ⟨cs, hc⟩ := own_typed h2 k hk
  exact hg.block k (blk_lt hc) fun e => absurd (hty k _ _ e.symm hc) (by decide)
/-- A row of texts lives on beside the reader's calls. -/
theorem KT.R {w0 w W : World} {g base : Nat} {kept : List Int} {bad : Bool} {ok : Nat → Prop} {v : Value} {xs : List ByteArray} (h : KT w W g) (hS : St w0 w g kept bad) (hR : Kd.R Kd.string 9 w base ok v xs) : Kd.R Kd.string 9 W base ok v xs := by
  obtain ⟨_, kv, h1, _⟩ := hS
  refine Kd.R_mono (Kd.R_move (Kd.R_bound hR) fun k hk => ?_) fun _ hk => hk.1
  obtain ⟨_, _, hlt, q, hq, cells, hc⟩ := hk
  have hq9 : q = 9 := by simpa [Kd.string, Kd.scalar] using hq
  subst hq9
  refine h.2 k hlt (fun e => ?_) fun cs hcs => ?_
  · subst e; rw [h1] at hc; injection hc with hc; injection hc with _ hc; exact absurd hc (by decide)
  · rw [hcs] at hc; injection hc with hc; injection hc with _ hc; exact absurd hc (by decide)
end Go.Proofs.Ytmfbmagbpceomaa.Wire
