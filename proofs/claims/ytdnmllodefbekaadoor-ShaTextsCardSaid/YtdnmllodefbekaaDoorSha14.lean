import Derived.Test.YtdnmllodefbekaaDoorSha8
namespace Go.Proofs.YtdnmllodefbekaaDoor.Sha
open Go.RowKit Go.Lib Go.Proofs.YtdnmllodefbekaaDoorW.PrintWords Go.Proofs.YtdnmllodefbekaaDoorW.PrintLast Go.Proofs.YtdnmllodefbekaaDoorW.PrintMore
set_option linter.unusedVariables false
set_option linter.unusedSimpArgs false
attribute [local go_sem high] idx_hex
set_option maxRecDepth 100000 in
set_option maxHeartbeats 8000000 in
theorem rhex_walk (b : ByteArray) (w : World) :
    Calls Tryd.prog 22 #[.string b] w fun e w' => e = .returned (hexR b) ∧ Below w.heap.size w w' := by
  go_enter Tryd.func22, Tryd.ntmps22
  unfold hexR
  by_cases q0 : 262144 < b.size
  · rw [if_pos q0]
    go_wp2
    go_ret2
    exact ⟨rfl, Below.refl _ _⟩
  · rw [if_neg q0]
    go_wp2_with fail
    go_loopg [4, 5] (b.size + 1) (fun kq v4 v5 w' => ∃ t : Nat, v5 = .int .i64 (t : Int) ∧ Aside0 (t + kq = b.size + 1 ∧ t ≤ b.size) ∧ Aside0 (Kd.R (Kd.int .u8) 5 w' w.heap.size (fun _ => True) v4 (hexL ((bytesOf b).take t))) ∧ Aside0 (Below w.heap.size w w'))
    case atStart => exact ⟨0, rfl, ⟨by omega, Nat.zero_le _⟩, ⟨Kd.R_nil _ _ _ _ _⟩, ⟨Below.refl _ _⟩⟩
    case round =>
      obtain ⟨t, rfl, HT, HO2, HB2⟩ := hrel
      obtain ⟨A4, c4, rfl⟩ := Kd.R_slice HO2.out
      have hlo : (hexL ((bytesOf b).take t)).length = 2 * t := by rw [hexL_len, List.length_take, bytesOf_length, Nat.min_eq_left HT.out.2]
      rw [hlo] at HO2 ⊢
      clear hlo
      by_cases q1 : t < b.size
      · obtain ⟨kq1, rfl⟩ : ∃ kq1, gk = kq1 + 1 := ⟨gk - 1, by have := HT.out; omega⟩
        obtain ⟨x, hx0, hx1, hxr, hxb⟩ := bt_rd b t q1
        have hv1 : 0 ≤ x / 16 := by omega
        have hv2 : x / 16 < 16 := by omega
        have hv3 : 0 ≤ x % 16 := by omega
        have hv4 : x % 16 < 16 := by omega
        have hd : Int.tdiv x 16 = x / 16 := Int.tdiv_eq_ediv_of_nonneg hx0
        have hm : Int.tmod x 16 = x % 16 := Int.tmod_eq_emod_of_nonneg hx0
        have hdw : IntKind.u8.wrap (x / 16) = x / 16 := by rw [IntKind.wrap_u8]; omega
        have hmw : IntKind.u8.wrap (x % 16) = x % 16 := by rw [IntKind.wrap_u8]; omega
        have hd2 : x / 16 % 256 = x / 16 := by omega
        have hm2 : x % 16 % 256 = x % 16 := by omega
        go_wp2_with fail
        go_region_held3 (fun _ => True) (exact trivial)
          (first | (refine Kd.R_append_rows_step (Kd.int .u8) (w0 := w) w.heap.size (by rfl) (.tmp 15) (.tmp 26) 32 5 (.int .u8 0) 1 rfl Tryd.underlying32 info5 rfl (by decide) (by decide) _ (hexL ((bytesOf b).take t)) [hexD (x / 16), hexD (x % 16)] (some ⟨wr.heap.size, 0, none⟩) 2 2 (fun _ => True) (fun _ => False) rfl rfl ?aO ?aC (fun _ _ h => h) (fun _ h => h.elim) (fun _ _ => trivial) ?aB ?aS (by rw [hexL_len, List.length_take]; simp; omega) ?_; (case aO => first | exact Kd.R_alloc (Kd.R_drew HO2.out) _ | exact Kd.R_drew (Kd.R_alloc HO2.out) _); (case aC => exact two_reads _ _ _); (case aB => first | exact below_alloc (below_drew1 HB2.out) _ | exact below_drew1 (below_alloc HB2.out _)); (case aS => first | exact (below_alloc (below_drew1 HB2.out) _).size | exact (below_drew1 (below_alloc HB2.out _)).size); intro v1 w8 hr8 hb8 hg8 hat8; have HO8 := Aside0.mk hr8; have HB8 := Aside0.mk hb8; clear hr8 hb8 hg8 hat8))
        all_goals
          go_wp2_with fail
          go_roundg kq1
          case measure => omega
          case rel => exact ⟨t + 1, by simp, ⟨by have := HT.out; omega, q1⟩, ⟨by rw [hexL_take_succ b t q1, hxr]; exact HO8.out⟩, HB8⟩
      · obtain rfl : t = b.size := by have := HT.out; omega
        have hall : (bytesOf b).take b.size = bytesOf b := List.take_of_length_le (by rw [bytesOf_length]; exact Nat.le_refl _)
        rw [hall] at HO2
        have hcv := own_string (P := Tryd.prog) Tryd.underlying32 Tryd.underlying5 Tryd.underlying9 (Kd.own_of_R HO2.out)
        clear q1 hall
        go_wp2
        go_ret2
        exact ⟨rfl, HB2.out⟩
end Go.Proofs.YtdnmllodefbekaaDoor.Sha
