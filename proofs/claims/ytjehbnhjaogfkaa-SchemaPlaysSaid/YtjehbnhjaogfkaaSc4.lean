import Derived.Test.YtjehbnhjaogfkaaSc3
namespace Go.Proofs.Ytjehbnhjaogfkaa.Sc
open Go.RowKit Go.Proofs.YtjehbnhjaogfkaaW.PrintWords Go.Proofs.YtjehbnhjaogfkaaW.PrintLast Go.Proofs.YtjehbnhjaogfkaaW.PrintMore
open Go.Proofs.Ytjehbnhjaogfkaa
set_option linter.unusedVariables false
set_option linter.unusedSimpArgs false
/-- A row that came in (false: read in w0), or is of the call's own (true). -/
def kfl {α : Type} (d : Kd α) (w0 : World) : Kd (α × Bool) where
  sz := d.sz
  E := d.E
  K := fun w x cs => (x.2 = true ∧ d.K w x.1 cs) ∨ (x.2 = false ∧ d.K w0 x.1 cs)
  M := fun w base ok x cs => (x.2 = true ∧ d.M w base ok x.1 cs) ∨ (x.2 = false ∧ d.K w0 x.1 cs)
  K_len := fun hk => hk.elim (fun h => d.K_len h.2) (fun h => d.K_len h.2)
  K_one := fun hk => hk.elim (fun h => d.K_one h.2) (fun h => d.K_one h.2)
  K_below := fun hb hk => hk.imp (fun h => ⟨h.1, d.K_below hb h.2⟩) id
  K_of_M := fun hk => hk.imp (fun h => ⟨h.1, d.K_of_M h.2⟩) id
  M_mono := fun hok hk => hk.imp (fun h => ⟨h.1, d.M_mono hok h.2⟩) id
  M_bound := fun hk => hk.imp (fun h => ⟨h.1, d.M_bound h.2⟩) id
  M_move := fun hm hk => hk.imp (fun h => ⟨h.1, d.M_move hm h.2⟩) id
  M_lower := fun hb hk => hk.imp (fun h => ⟨h.1, d.M_lower hb h.2⟩) id
theorem reads_fl {α : Type} {d : Kd α} {w0 : World} {A : Option Addr} {l : List α} (h : d.C w0 A l.length l) : ReadsRow ((kfl d w0).K w0) (kfl d w0).sz w0 A (l.map fun x => (x, false)).length (l.map fun x => (x, false)) := by
  refine ⟨rfl, by rw [List.length_map]; exact h.2.1, fun hp => ?_⟩
  obtain ⟨ad, e, hc⟩ := h.2.2 (by rw [List.length_map] at hp; exact hp)
  refine ⟨ad, e, fun i x hx => ?_⟩
  rw [List.getElem?_map] at hx
  obtain ⟨y, hy, rfl⟩ := Option.map_eq_some_iff.1 hx
  obtain ⟨c, hl, hK, hcell⟩ := hc i y hy
  exact ⟨c, hl, .inr ⟨rfl, hK⟩, hcell⟩
theorem fl_reads {W W1 : World} {A : Option Addr} {l : List Ix} (h : kix.C W A l.length l) (hb : Below W.heap.size W W1) : ReadsRow (fun x cs => x.2 = false ∧ kix.K W x.1 cs) (kfl kix W).sz W1 A l.length (l.map fun x => (x, false)) := by
  refine ⟨by rw [List.length_map], h.2.1, fun hp => ?_⟩
  obtain ⟨ad, e, hc⟩ := h.2.2 hp
  refine ⟨ad, e, fun i x hx => ?_⟩
  rw [List.getElem?_map] at hx
  obtain ⟨y, hy, rfl⟩ := Option.map_eq_some_iff.1 hx
  obtain ⟨c, hl, hK, hcell⟩ := hc i y hy
  exact ⟨c, hl, ⟨rfl, hK⟩, fun j u hu => cell_keep hb (World.block_lt_of_cell? _ _ (hcell j u hu)) (hcell j u hu)⟩
/-- A row that was built without a member. -/
theorem R_built {α : Type} (d : Kd α) (e : Nat) (W : World) : d.R e (W.alloc (.cells #[] e)) W.heap.size (fun _ => True) (.slice (some ⟨W.heap.size, 0, none⟩) 0 0) [] := by
  exact ⟨fun _ _ => trivial, OwnRow.lit W W.heap.size (inner := []) (Reps.none _ _) (Nat.le_refl _) (by simp)⟩
theorem kcol_M {W : World} {base : Nat} {ok : Nat → Prop} {x : Col} {cs : List Value} : kcol.M W base ok x cs ↔ cs = [.string x.nm, .int .i64 x.kd] := by
  constructor
  · rintro ⟨_, _, rfl, rfl, rfl⟩
    rfl
  · rintro rfl
    exact ⟨[.string x.nm], [.int .i64 x.kd], rfl, rfl, rfl⟩
theorem info3 : (Try.prog.info? 3).map (fun i => (i.zero, i.size, i.bytes)) = some (some (.int .i64 0), 1, 8) := by kernel_rfl
set_option maxRecDepth 100000 in
theorem cloneC_walk (W : World) (A : Option Addr) (l : List Col) (cap : Nat) (hC : kcol.C W A l.length l) (hcap : l.length ≤ cap) (hl : l.length ≤ 1000000) :
    Calls Try.prog 46 #[.slice A l.length cap] W fun e w' => ∃ v, e = .returned v ∧ kcol.R 32 w' W.heap.size (fun _ => True) v l ∧ Below W.heap.size W w' := by
  have HC := Aside0.mk hC
  have hen := fun w (a : Option Addr) n c => Lib.run_eql_slice_nil (P := Try.prog) w 27 32 a n c 0 0 Try.underlying27
  cases A with
  | none =>
    obtain rfl : l = [] := by
      have h := hC.2.2
      cases l with
      | nil => rfl
      | cons x y => obtain ⟨ad, h, -⟩ := h (by simp); cases h
    clear hC
    go_enter Try.func46, Try.ntmps46
    go_wp2_with fail
    go_ret
    exact ⟨_, rfl, Kd.R_nil _ _ _ _ _, Below.refl _ _⟩
  | some ad =>
    clear hC
    have HB0 := Aside0.mk (below_alloc (Below.refl W.heap.size W) (.cells #[] 32))
    go_enter Try.func46, Try.ntmps46
    go_wp2_with ((with_reducible refine gate_builtin (b := .append) (xs := #[.tmp 5, .tmp 6]) rfl ?_); at_builtin; refine Kd.R_append_rows kcol (Rr := kcol.K (W.alloc (.cells #[] 32))) (w0 := W) W.heap.size rfl (.tmp 5) (.tmp 6) 27 32 (.agg #[.string ⟨#[]⟩, .int .i64 0]) 24 rfl Try.underlying27 info32 rfl (show 0 < 2 from by decide) (by decide) _ [] l (some ad) l.length cap (fun _ => True) (fun k => k ≠ W.heap.size) rfl rfl (R_built _ _ _) (Kd.C_below HC.out HB0.out) (fun x cs h => kcol_M.2 (kcol_K.1 h)) (fun k hk => ⟨trivial, fun e => hk (Option.some.inj e)⟩) (fun _ _ => trivial) HB0.out HB0.out.size (by simp; omega) ?_; intro v1 w1 hR hB hG hO; have HR1 := Aside0.mk hR; have HB1 := Aside0.mk hB; clear hR hB hG hO)
    go_ret
    exact ⟨_, rfl, by simpa using HR1.out, HB1.out⟩
set_option maxRecDepth 100000 in
theorem cloneX_walk (w0 W : World) (A : Option Addr) (l : List Ix) (cap : Nat) (hC : kix.C w0 A l.length l) (hw : Below w0.heap.size w0 W) (hcap : l.length ≤ cap) (hl : l.length ≤ 1000000) :
    Calls Try.prog 47 #[.slice A l.length cap] W fun e w' => ∃ v, e = .returned v ∧ (kfl kix w0).R 67 w' W.heap.size (fun _ => True) v (l.map fun x => (x, false)) ∧ Below W.heap.size W w' := by
  have HC := Aside0.mk hC
  have HW := Aside0.mk hw
  clear hw
  have hen := fun w (a : Option Addr) n c => Lib.run_eql_slice_nil (P := Try.prog) w 28 67 a n c 0 0 Try.underlying28
  cases A with
  | none =>
    obtain rfl : l = [] := by
      have h := hC.2.2
      cases l with
      | nil => rfl
      | cons x y => obtain ⟨ad, h, -⟩ := h (by simp); cases h
    clear hC
    go_enter Try.func47, Try.ntmps47
    go_wp2_with fail
    go_ret
    exact ⟨_, rfl, Kd.R_nil _ _ _ _ _, Below.refl _ _⟩
  | some ad =>
    clear hC
    have HB0 := Aside0.mk (below_alloc (Below.refl W.heap.size W) (.cells #[] 67))
    go_enter Try.func47, Try.ntmps47
    go_wp2_with ((with_reducible refine gate_builtin (b := .append) (xs := #[.tmp 5, .tmp 6]) rfl ?_); at_builtin; refine Kd.R_append_rows (kfl kix w0) (Rr := (fun x cs => x.2 = false ∧ kix.K w0 x.1 cs)) (w0 := W) W.heap.size rfl (.tmp 5) (.tmp 6) 28 67 (.agg #[.string ⟨#[]⟩, .slice none 0 0, .bool false]) 48 rfl Try.underlying28 info67 rfl (show 0 < 3 from by decide) (by decide) _ [] (l.map fun x => (x, false)) (some ad) l.length cap (fun _ => True) (fun k => k ≠ W.heap.size) rfl rfl (R_built _ _ _) (fl_reads HC.out (step HW.out HB0.out)) (fun x cs h => .inr h) (fun k hk => ⟨trivial, fun e => hk (Option.some.inj e)⟩) (fun _ _ => trivial) HB0.out HB0.out.size (by simp; omega) ?_; intro v1 w1 hR hB hG hO; have HR1 := Aside0.mk hR; have HB1 := Aside0.mk hB; clear hR hB hG hO)
    go_ret
    exact ⟨_, rfl, by simpa using HR1.out, HB1.out⟩
set_option maxRecDepth 100000 in
theorem cloneN_walk (W : World) (A : Option Addr) (l : List Int) (cap : Nat) (hC : (Kd.int .i64).C W A l.length l) (hcap : l.length ≤ cap) (hl : l.length ≤ 1000000) :
    Calls Try.prog 48 #[.slice A l.length cap] W fun e w' => ∃ v, e = .returned v ∧ (Kd.int .i64).R 3 w' W.heap.size (fun _ => True) v l ∧ Below W.heap.size W w' := by
  have HC := Aside0.mk hC
  have hen := fun w (a : Option Addr) n c => Lib.run_eql_slice_nil (P := Try.prog) w 65 3 a n c 0 0 Try.underlying65
  cases A with
  | none =>
    obtain rfl : l = [] := by
      have h := hC.2.2
      cases l with
      | nil => rfl
      | cons x y => obtain ⟨ad, h, -⟩ := h (by simp); cases h
    clear hC
    go_enter Try.func48, Try.ntmps48
    go_wp2_with fail
    go_ret
    exact ⟨_, rfl, Kd.R_nil _ _ _ _ _, Below.refl _ _⟩
  | some ad =>
    clear hC
    have HB0 := Aside0.mk (below_alloc (Below.refl W.heap.size W) (.cells #[] 3))
    go_enter Try.func48, Try.ntmps48
    go_wp2_with ((with_reducible refine gate_builtin (b := .append) (xs := #[.tmp 5, .tmp 6]) rfl ?_); at_builtin; refine Kd.R_append_rows (Kd.int .i64) (Rr := (Kd.int .i64).K (W.alloc (.cells #[] 3))) (w0 := W) W.heap.size rfl (.tmp 5) (.tmp 6) 65 3 (.int .i64 0) 8 rfl Try.underlying65 info3 rfl (show 0 < 1 from by decide) (by decide) _ [] l (some ad) l.length cap (fun _ => True) (fun k => k ≠ W.heap.size) rfl rfl (R_built _ _ _) (Kd.C_below HC.out HB0.out) (fun x cs h => h) (fun k hk => ⟨trivial, fun e => hk (Option.some.inj e)⟩) (fun _ _ => trivial) HB0.out HB0.out.size (by simp; omega) ?_; intro v1 w1 hR hB hG hO; have HR1 := Aside0.mk hR; have HB1 := Aside0.mk hB; clear hR hB hG hO)
    go_ret
    exact ⟨_, rfl, by simpa using HR1.out, HB1.out⟩
end Go.Proofs.Ytjehbnhjaogfkaa.Sc
