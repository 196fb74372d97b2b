import Derived.Test.YtmfbmagbpceomaaWireBad2
namespace Go.Proofs.Ytmfbmagbpceomaa.Wire
open Go.RowKit Go.Proofs.YtmfbmagbpceomaaW.PrintWords Go.Proofs.YtmfbmagbpceomaaW.PrintLast Go.Proofs.YtmfbmagbpceomaaW.PrintMore
attribute [local go_sem] max2_int min2_int max_two min_two max_three min_three max_four min_four
set_option linter.unusedVariables false
set_option linter.unusedSimpArgs false
/-- Another row of texts was written. -/
theorem R_other {W W1 : World} {base base2 : Nat} {u v : Value} {xs ys : List ByteArray} (h : Kd.R Kd.string 9 W base (fun _ => True) u xs) (hv : Kd.R Kd.string 9 W base2 (fun k => some k ≠ u.ownBlock) v ys) (hg : W.grownBy W1 v.ownBlock) : Kd.R Kd.string 9 W1 base (fun _ => True) u xs :=
  Kd.R_of_own (own_move (Kd.own_of_R h) fun k hk => hg.block k (Kd.R_lt h k hk) fun e => hv.1 k e.symm hk.symm) fun _ _ => trivial
theorem R_fresh {W : World} {base : Nat} {ok : Nat → Prop} {u : Value} {xs : List ByteArray} (h : Kd.R Kd.string 9 W base ok u xs) : ∀ k, W.heap.size ≤ k → some k ≠ u.ownBlock := fun k hk e => by
  have := Kd.R_lt h k e.symm
  omega
theorem cut_n (c : Int) (L : Nat) (hL : L ≤ 1000000) : ∃ n : Nat, n ≤ L ∧ wrap64 ((IntKind.u64.wrap c).tmod ((L : Int) + 1)) = (n : Int) := by
  have h0 : 0 ≤ IntKind.u64.wrap c := by simp [IntKind.wrap, IntKind.bits, IntKind.signed]; omega
  have h1 := Int.tmod_lt_of_pos (IntKind.u64.wrap c) (show (0 : Int) < (L : Int) + 1 by omega)
  have h2 := Int.tmod_nonneg ((L : Int) + 1) h0
  refine ⟨((IntKind.u64.wrap c).tmod ((L : Int) + 1)).toNat, by omega, ?_⟩
  unfold wrap64; omega
theorem pr_fuel : ∀ (k k' : Nat) (xs : List Int), xs.length < k → xs.length < k' → pr k xs = pr k' xs := by
  intro k
  induction k with
  | zero => intro k' xs h _; omega
  | succ k ih =>
    intro k' xs h h'
    obtain ⟨k', rfl⟩ : ∃ q, k' = q + 1 := ⟨k' - 1, by omega⟩
    rw [pr_succ, pr_succ]
    by_cases h4 : xs.length < 4
    · rw [if_pos h4, if_pos h4]
    · rw [if_neg h4, if_neg h4, ih k' _ (by rw [List.length_drop]; omega) (by rw [List.length_drop]; omega)]
/-- One piece of what good packets are. -/
theorem cut_fact (Bs : List ByteArray) (hz : ∀ s ∈ Bs, s.size ≤ 2000) (hl : Bs.length ≤ 20) (m : Nat) (kept : List Int) (rest : ByteArray) (n : Nat) (hn : n ≤ rest.size) (hm : m ≤ Bs.length) (he : encs (Bs.drop m) = kept ++ bytesOf rest) :
    ∃ m2 kept2, feedF kept false (rest.extract 0 n) = ((Bs.drop m).take m2, 0, kept2, false) ∧ Bs.take m ++ (Bs.drop m).take m2 = Bs.take (m + m2) ∧ m + m2 ≤ Bs.length ∧ encs (Bs.drop (m + m2)) = kept2 ++ bytesOf (rest.extract n rest.size) ∧ (n = rest.size → m + m2 = Bs.length ∧ kept2 = []) := by
  have hsz : (rest.extract 0 n).size ≤ 262144 := by
    have h1 := congrArg List.length he
    rw [List.length_append, bytesOf_length, encs_wsum] at h1
    have h2 := wsum_bound 2000 (Bs.drop m) fun s hs => hz s (List.mem_of_mem_drop hs)
    have h3 : (Bs.drop m).length * (4 + 2000) ≤ 20 * 2004 := Nat.mul_le_mul_right _ (by rw [List.length_drop]; omega)
    rw [ByteArray.size_extract]; omega
  have hb : bytesOf rest = bytesOf (rest.extract 0 n) ++ bytesOf (rest.extract n rest.size) := by
    rw [← bytesOf_append, ByteArray.extract_append_extract]
    simp
  rw [hb, ← List.append_assoc] at he
  obtain ⟨m2, kept2, a1, a2, a3, a4⟩ := pr_encs (Bs.drop m) (fun s hs => by have := hz s (List.mem_of_mem_drop hs); omega) _ _ he ((kept ++ bytesOf (rest.extract 0 n)).length + 1 + Bs.length) (by rw [List.length_drop]; omega)
  refine ⟨m2, kept2, ?_, ?_, ?_, ?_, ?_⟩
  · rw [feedF_pr _ _ (by omega)]
    exact (pr_fuel _ _ _ (by omega) (by omega)).trans a2
  · rw [List.take_add]
  · rw [List.length_drop] at a1; omega
  · rw [List.drop_drop] at a3; exact a3
  · intro hn2
    have : rest.extract n rest.size = ByteArray.empty := by rw [hn2]; apply ByteArray.ext; simp
    obtain ⟨b1, b2⟩ := a4 (by rw [this]; rfl)
    rw [List.length_drop] at b1
    exact ⟨by omega, b2⟩
theorem kept_bound {Bs : List ByteArray} (hz : ∀ s ∈ Bs, s.size ≤ 2000) (hl : Bs.length ≤ 20) {m : Nat} {kept : List Int} {rest : List Int} (he : encs (Bs.drop m) = kept ++ rest) : kept.length ≤ 50000 := by
  have h1 := congrArg List.length he
  rw [List.length_append, encs_wsum] at h1
  have h2 := wsum_bound 2000 (Bs.drop m) fun s hs => hz s (List.mem_of_mem_drop hs)
  have h3 : (Bs.drop m).length * (4 + 2000) ≤ 20 * 2004 := Nat.mul_le_mul_right _ (by rw [List.length_drop]; omega)
  omega
set_option maxRecDepth 100000 in
set_option maxHeartbeats 8000000 in
theorem cuts_walk (A : Option Addr) (l : List ByteArray) (c : Nat) (B : Option Addr) (cs : List Int) (d : Nat) (w : World) (h : Kd.C Kd.string w A l.length l) (hc : l.length ≤ c) (h2 : ReadsInt w .i64 B cs.length cs) (hd : cs.length ≤ d) :
    Calls Try.prog 10 #[.slice A l.length c, .slice B cs.length d] w fun e w' => e = .returned (.bool true) ∧ Below w.heap.size w w' := by
  have HD := Aside0.mk h2
  clear h2
  have HC := Aside0.mk h
  clear h
  go_enter Try.func10, Try.ntmps10
  go_wp2_with fail
  refine (new_calls w w (Below.refl _ _)).mono ?_
  rintro e w1 ⟨g, rfl, hS, hB, _⟩
  have HS := Aside0.mk hS
  have HB := Aside0.mk hB
  clear hS hB
  go_wp2_with fail
  refine (works_calls w1).mono ?_
  rintro e w2 ⟨rfl, hb2⟩
  have HS2 := Aside0.mk (HS.out.below hb2)
  have HB2 := Aside0.mk (below_step HB.out hb2)
  clear hb2 HS HB
  go_wp2_with fail
  go_loopg [6, 7, 8] 21 (fun kq v8 v9 v10 w' => ∃ (i : Nat) (all : ByteArray), v10 = .int .i64 (i : Int) ∧ v8 = .string all ∧ Aside0 (i + kq = 21 ∧ i ≤ 20 ∧ i ≤ l.length ∧ bytesOf all = encs (taken i 2000 l) ∧ all.size ≤ i * 2004) ∧ Aside0 (Kd.R Kd.string 9 w' w.heap.size (fun _ => True) v9 (taken i 2000 l)) ∧ Aside0 (St w w' g [] false ∧ Below w.heap.size w w'))
  case atStart => exact ⟨0, ⟨#[]⟩, rfl, rfl, ⟨rfl, Nat.zero_le _, Nat.zero_le _, rfl, Nat.zero_le _⟩, ⟨Kd.R_nil _ _ _ _ _⟩, ⟨HS2.out, HB2.out⟩⟩
  case round =>
    obtain ⟨i, all, rfl, rfl, HI, HR, HS⟩ := hrel
    clear HS2 HB2
    by_cases q1 : i < l.length
    · by_cases q2 : i < 20
      · obtain ⟨kq1, rfl⟩ : ∃ kq1, gk = kq1 + 1 := ⟨gk - 1, by have := HI.out; omega⟩
        obtain ⟨ad, rfl, hx⟩ := Kd.at_string (Kd.C_below HC.out HS.out.2) (i : Int) (by omega) (by omega)
        obtain ⟨s, hs⟩ : ∃ s, rdOf ByteArray.empty l (i : Int) = s := ⟨_, rfl⟩
        rw [hs] at hx
        have q1' : (i : Int) < (l.length : Int) := by omega
        have q2' : (i : Int) < 20 := by omega
        have ht := taken_succ 2000 i l q1
        have hs0 : l.getD i ByteArray.empty = s := by rw [← hs]; unfold rdOf; simp
        rw [hs0] at ht
        have HT := Aside0.mk ht
        have HQ := Aside0.mk (And.intro q1 q2)
        clear hs hs0 ht q1 q2
        simp only [Int.toNat_natCast] at hx
        by_cases hbig : 2000 < s.size
        · have hbig' : (2000 : Int) < (s.size : Int) := by omega
          go_wp2_with fail
          go_roundg kq1
          case measure => omega
          case rel => exact ⟨i + 1, all, by simp, rfl, ⟨by have := HI.out; omega, by have := HQ.out; omega, by have := HQ.out; omega, by rw [HT.out, if_neg (by omega)]; exact HI.out.2.2.2.1, by have := HI.out; omega⟩, ⟨by rw [HT.out, if_neg (by omega)]; exact HR.out⟩, HS⟩
        · have hbig' : ¬ (2000 : Int) < (s.size : Int) := by omega
          have ht2 : taken (i + 1) 2000 l = taken i 2000 l ++ [s] := by rw [HT.out, if_pos (by omega)]
          have HT2 := Aside0.mk ht2
          have hsz : all.size ≤ 40080 := by have := HI.out; have := HQ.out; omega
          have hlen := taken_len i 2000 l
          have HL := Aside0.mk (show (taken i 2000 l).length ≤ 20 by have := HQ.out; omega)
          clear ht2 hlen HT
          go_wp2_with fail
          refine (packet_calls s (by omega) _).mono ?_
          rintro e w3 ⟨rfl, hb3⟩
          have hps := packet_size s
          have HP := Aside0.mk (bytesOf_packet s)
          obtain ⟨p, hp⟩ : ∃ p, strOfNums (hd4 s.size) ++ s = p := ⟨_, rfl⟩
          rw [hp] at hps
          rw [hp] at HP
          rw [hp]
          have hx3 := (Below.cell (p := ad.add i) hb3 (World.block_lt_of_cell? _ _ hx)).trans hx
          have HR3 := Aside0.mk (Kd.R_below HR.out hb3)
          have HS3 := Aside0.mk (And.intro (HS.out.1.below hb3) (below_step HS.out.2 hb3))
          have hps2 : p.size ≤ 2004 := by omega
          have HP2 := Aside0.mk hps
          clear hb3 hx HS HR hp hps
          go_wp2_with (first | ((with_reducible refine gate_builtin (b := .append) (xs := #[.tmp 54, .tmp 59]) rfl ?_); at_builtin; refine Kd.R_append Kd.string (w0 := w3) w.heap.size rfl (.tmp 54) (.tmp 59) 27 9 (.string ⟨#[]⟩) 16 rfl Try.underlying27 info9 rfl (by decide) (by omega) _ (taken i 2000 l) s [.string s] (fun _ => True) (fun _ => False) rfl rfl rfl (fun _ h => h.elim) (fun _ _ => trivial) HR3.out (Below.refl _ _) HS3.out.2.size (by have := HL.out; omega) ?_; intro v1 w5 hr5 hb5 hg5 _; have HR5 := Aside0.mk hr5; have HS5 := Aside0.mk (And.intro (HS3.out.1.grown HR3.out hg5) (HS3.out.2.trans hb5)); clear hr5 hb5 hg5 hx3))
          go_roundg kq1
          case measure => omega
          case rel => exact ⟨i + 1, all ++ p, by simp, rfl, ⟨by have := HI.out; omega, by have := HQ.out; omega, by have := HQ.out; omega, by rw [HT2.out, encs_append, bytesOf_append, HP.out, HI.out.2.2.2.1], by have := HI.out; have := HP2.out; rw [ByteArray.size_append]; omega⟩, ⟨by rw [HT2.out]; exact HR5.out⟩, HS5⟩
      · have q1' : (i : Int) < (l.length : Int) := by omega
        have q2' : (20 : Int) ≤ (i : Int) := by omega
        clear q1 q2
        obtain ⟨Bs, hBs⟩ : ∃ Bs, taken i 2000 l = Bs := ⟨_, rfl⟩
        have hBl : Bs.length ≤ 20 := by rw [← hBs]; have := taken_len i 2000 l; have := HI.out; omega
        have hBz : ∀ s ∈ Bs, s.size ≤ 2000 := by rw [← hBs]; exact taken_size i 2000 l
        rw [hBs] at HI HR
        have HA := Aside0.mk HI.out.2.2.2.1
        have HF := Aside0.mk (cut_fact Bs hBz hBl)
        have HBl := Aside0.mk hBl
        have HBz := Aside0.mk hBz
        have hal : all.size ≤ 40080 := by have := HI.out; omega
        clear hBs hBl hBz HI
        go_wp2_with fail
        go_loopg [6, 11, 12] 101 (fun kq v6 v11 v12 w' => ∃ (j : Nat) (rest : ByteArray) (m : Nat) (kept : List Int), v12 = .int .i64 (j : Int) ∧ v6 = .string rest ∧ Aside0 (j + kq = 101 ∧ j ≤ 100 ∧ rest.size ≤ 40080 ∧ m ≤ Bs.length ∧ encs (Bs.drop m) = kept ++ bytesOf rest ∧ kept.length ≤ 50000) ∧ Aside0 (Kd.R Kd.string 9 w' w.heap.size (fun _ => True) u7 Bs) ∧ Aside0 (Kd.R Kd.string 9 w' w.heap.size (fun k => some k ≠ u7.ownBlock) v11 (Bs.take m)) ∧ Aside0 (St w w' g kept false ∧ Below w.heap.size w w'))
        case atStart => exact ⟨0, all, 0, [], rfl, rfl, ⟨rfl, Nat.zero_le _, hal, Nat.zero_le _, by rw [List.drop_zero, List.nil_append]; exact HA.out.symm, Nat.zero_le _⟩, HR, ⟨Kd.R_nil _ _ _ _ _⟩, HS⟩
        case round =>
          obtain ⟨j, rest, m, kept, rfl, rfl, HJ, HW, HG, HT⟩ := hrel
          clear HR HS
          have hrz : rest.size ≤ 40080 := HJ.out.2.2.1
          by_cases t1 : j < cs.length
          · by_cases t2 : j < 100
            · have t1' : (j : Int) < (cs.length : Int) := by omega
              have t2' : (j : Int) < 100 := by omega
              obtain ⟨kq1, rfl⟩ : ∃ kq1, gk = kq1 + 1 := ⟨gk - 1, by have := HJ.out; omega⟩
              obtain ⟨ad, rfl, hx⟩ := ((HD.out.below HT.out.2)).at_ (j : Int) (by omega) (by omega)
              obtain ⟨cv, hcv⟩ : ∃ cv, rd cs (j : Int) = cv := ⟨_, rfl⟩
              rw [hcv] at hx
              simp only [Int.toNat_natCast] at hx
              obtain ⟨n, hn, hnw⟩ := cut_n cv rest.size (by omega)
              have hn' : (n : Int) ≤ (rest.size : Int) := by omega
              have HN := Aside0.mk hn
              clear hn t1 t2
              go_wp2_with fail
              obtain ⟨m2, kept2, f1, f2, f3, f4, f5⟩ := HF.out m kept rest n HN.out HJ.out.2.2.2.1 HJ.out.2.2.2.2.1
              have hP0 : ((Bs.drop m).take m2).length ≤ 20 := by rw [List.length_take, List.length_drop]; have := HBl.out; omega
              generalize (Bs.drop m).take m2 = P at f1 f2 hP0
              have HPl := Aside0.mk hP0
              clear hP0
              refine (feed_calls g kept false (rest.extract 0 n) w wr HT.out.1 HT.out.2 (by have := HJ.out; omega)).mono ?_
              rw [f1]
              rintro e w3 ⟨v3, rfl, hR3, hS3, hB3, hK3⟩
              have HW3 := Aside0.mk (hK3.R HT.out.1 HW.out)
              have HG3 := Aside0.mk (hK3.R HT.out.1 HG.out)
              have HT3 := Aside0.mk (And.intro hS3 hB3)
              obtain ⟨A3, c3, rfl, hc3, hC3⟩ := Kd.R_reads hR3
              have HC3 := Aside0.mk hC3
              have HX := Aside0.mk (And.intro f2 (And.intro f3 f4))
              have hbl := HPl.out
              have hbm : (Bs.take m).length ≤ 20 := by rw [List.length_take]; have := HBl.out; omega
              have HL := Aside0.mk (And.intro hbl hbm)
              have hk2 : kept2.length ≤ 50000 := kept_bound HBz.out HBl.out f4
              have HK := Aside0.mk hk2
              clear hR3 hS3 hB3 hK3 hc3 hC3 f1 f2 f3 f4 f5 hx HW HG HT hbl hbm hk2
              go_wp2_with (first | ((with_reducible refine gate_builtin (b := .append) (xs := #[.tmp 92, .tmp 93]) rfl ?_); at_builtin; refine Kd.R_append_row Value.string ByteArray.empty (h1 := fun _ => rfl) (w0 := w3) w.heap.size rfl (.tmp 92) (.tmp 93) 27 9 (.string ⟨#[]⟩) 16 rfl Try.underlying27 info9 rfl (by decide) _ (Bs.take m) P A3 _ c3 (fun k => some k ≠ u7.ownBlock) rfl rfl (R_fresh HW3.out) HG3.out HC3.out (Below.refl _ _) HT3.out.2.size (by have := HL.out; omega) ?_; intro v1 w5 hr5 hb5 hg5 _; have HG5 := Aside0.mk hr5; have HW5 := Aside0.mk (R_other HW3.out HG3.out hg5); have HT5 := Aside0.mk (And.intro (HT3.out.1.grown HG3.out hg5) (HT3.out.2.trans hb5)); clear hr5 hb5 hg5))
              go_roundg kq1
              case measure => omega
              case rel => exact ⟨j + 1, rest.extract n rest.size, m + m2, kept2, by simp, rfl, ⟨by have := HJ.out; omega, by have := HJ.out; omega, by rw [ByteArray.size_extract]; omega, HX.out.2.1, HX.out.2.2, HK.out⟩, HW5, ⟨by rw [← HX.out.1]; exact HG5.out⟩, HT5⟩
            · have t1' : (j : Int) < (cs.length : Int) := by omega
              have t2' : (100 : Int) ≤ (j : Int) := by omega
              clear t1 t2
              have hext : rest.extract 0 rest.size = rest := by apply ByteArray.ext; simp
              obtain ⟨m2, kept2, f1, f2, f3, f4, f5⟩ := HF.out m kept rest rest.size (Nat.le_refl _) HJ.out.2.2.2.1 HJ.out.2.2.2.2.1
              obtain ⟨f6, rfl⟩ := f5 rfl
              rw [hext] at f1
              have hP0 : ((Bs.drop m).take m2).length ≤ 20 := by rw [List.length_take, List.length_drop]; have := HBl.out; omega
              generalize (Bs.drop m).take m2 = P at f1 f2 hP0
              have HPl := Aside0.mk hP0
              clear hP0
              clear f5 hext
              have HE := Aside0.mk f1
              have HX := Aside0.mk (And.intro f2 f6)
              clear f1 f2 f3 f4 f6
              go_wp2_with fail
              refine (feed_calls g kept false rest w wr HT.out.1 HT.out.2 (by have := HJ.out; omega)).mono ?_
              rw [HE.out]
              rintro e w3 ⟨v3, rfl, hR3, hS3, hB3, hK3⟩
              have HW3 := Aside0.mk (hK3.R HT.out.1 HW.out)
              have HG3 := Aside0.mk (hK3.R HT.out.1 HG.out)
              have HT3 := Aside0.mk (And.intro hS3 hB3)
              obtain ⟨A3, c3, rfl, hc3, hC3⟩ := Kd.R_reads hR3
              have HC3 := Aside0.mk hC3
              have hbl := HPl.out
              have hbm : (Bs.take m).length ≤ 20 := by rw [List.length_take]; have := HBl.out; omega
              have HL := Aside0.mk (And.intro hbl hbm)
              clear hR3 hS3 hB3 hK3 hc3 hC3 HW HG HT hbl hbm
              go_wp2_with (first | ((with_reducible refine gate_builtin (b := .append) (xs := #[.tmp 104, .tmp 105]) rfl ?_); at_builtin; refine Kd.R_append_row Value.string ByteArray.empty (h1 := fun _ => rfl) (w0 := w3) w.heap.size rfl (.tmp 104) (.tmp 105) 27 9 (.string ⟨#[]⟩) 16 rfl Try.underlying27 info9 rfl (by decide) _ (Bs.take m) P A3 _ c3 (fun k => some k ≠ u7.ownBlock) rfl rfl (R_fresh HW3.out) HG3.out HC3.out (Below.refl _ _) HT3.out.2.size (by have := HL.out; omega) ?_; intro v1 w5 hr5 hb5 hg5 _; have HG5 := Aside0.mk (show Kd.R Kd.string 9 w5 w.heap.size (fun k => some k ≠ u7.ownBlock) v1 Bs from by rw [HX.out.1, HX.out.2, List.take_of_length_le (Nat.le_refl _)] at hr5; exact hr5); have HW5 := Aside0.mk (R_other HW3.out HG3.out hg5); have HT5 := Aside0.mk (And.intro (HT3.out.1.grown HG3.out hg5) (HT3.out.2.trans hb5)); obtain ⟨A5, c5, rfl, hc5, hC5⟩ := Kd.R_reads HG5.out; obtain ⟨A9, c9, rfl, hc9, hC9⟩ := Kd.R_reads HW5.out; have H5 := Aside0.mk (And.intro hc5 hC5); have H9 := Aside0.mk (And.intro hc9 hC9); clear hr5 hb5 hg5 hc5 hC5 hc9 hC9))
              refine (same_calls Bs (by have := HBl.out; omega) A5 A9 c5 c9 w5 H5.out.2 H5.out.1 H9.out.2 H9.out.1).mono ?_
              rintro e w6 ⟨rfl, hd⟩
              have HS6 := Aside0.mk (And.intro (HT5.out.1.below hd.below) (below_step HT5.out.2 hd.below))
              clear hd HT5
              go_wp2_with fail
              refine (left_calls g [] false w _ HS6.out.1).mono ?_
              rintro e w7 ⟨rfl, hd⟩
              have HS7 := Aside0.mk (And.intro (HS6.out.1.below hd.below) (below_step HS6.out.2 hd.below))
              clear hd HS6
              go_wp2_with fail
              refine (bad_calls g [] false w _ HS7.out.1).mono ?_
              rintro e w8 ⟨rfl, hd⟩
              have HS8 := Aside0.mk (below_step HS7.out.2 hd.below)
              clear hd HS7
              go_wp2
              go_ret
              exact ⟨rfl, HS8.out⟩
          · have t1' : (cs.length : Int) ≤ (j : Int) := by omega
            clear t1
            have hext : rest.extract 0 rest.size = rest := by apply ByteArray.ext; simp
            obtain ⟨m2, kept2, f1, f2, f3, f4, f5⟩ := HF.out m kept rest rest.size (Nat.le_refl _) HJ.out.2.2.2.1 HJ.out.2.2.2.2.1
            obtain ⟨f6, rfl⟩ := f5 rfl
            rw [hext] at f1
            have hP0 : ((Bs.drop m).take m2).length ≤ 20 := by rw [List.length_take, List.length_drop]; have := HBl.out; omega
            generalize (Bs.drop m).take m2 = P at f1 f2 hP0
            have HPl := Aside0.mk hP0
            clear hP0
            clear f5 hext
            have HE := Aside0.mk f1
            have HX := Aside0.mk (And.intro f2 f6)
            clear f1 f2 f3 f4 f6
            go_wp2_with fail
            refine (feed_calls g kept false rest w wr HT.out.1 HT.out.2 (by have := HJ.out; omega)).mono ?_
            rw [HE.out]
            rintro e w3 ⟨v3, rfl, hR3, hS3, hB3, hK3⟩
            have HW3 := Aside0.mk (hK3.R HT.out.1 HW.out)
            have HG3 := Aside0.mk (hK3.R HT.out.1 HG.out)
            have HT3 := Aside0.mk (And.intro hS3 hB3)
            obtain ⟨A3, c3, rfl, hc3, hC3⟩ := Kd.R_reads hR3
            have HC3 := Aside0.mk hC3
            have hbl := HPl.out
            have hbm : (Bs.take m).length ≤ 20 := by rw [List.length_take]; have := HBl.out; omega
            have HL := Aside0.mk (And.intro hbl hbm)
            clear hR3 hS3 hB3 hK3 hc3 hC3 HW HG HT hbl hbm
            go_wp2_with (first | ((with_reducible refine gate_builtin (b := .append) (xs := #[.tmp 104, .tmp 105]) rfl ?_); at_builtin; refine Kd.R_append_row Value.string ByteArray.empty (h1 := fun _ => rfl) (w0 := w3) w.heap.size rfl (.tmp 104) (.tmp 105) 27 9 (.string ⟨#[]⟩) 16 rfl Try.underlying27 info9 rfl (by decide) _ (Bs.take m) P A3 _ c3 (fun k => some k ≠ u7.ownBlock) rfl rfl (R_fresh HW3.out) HG3.out HC3.out (Below.refl _ _) HT3.out.2.size (by have := HL.out; omega) ?_; intro v1 w5 hr5 hb5 hg5 _; have HG5 := Aside0.mk (show Kd.R Kd.string 9 w5 w.heap.size (fun k => some k ≠ u7.ownBlock) v1 Bs from by rw [HX.out.1, HX.out.2, List.take_of_length_le (Nat.le_refl _)] at hr5; exact hr5); have HW5 := Aside0.mk (R_other HW3.out HG3.out hg5); have HT5 := Aside0.mk (And.intro (HT3.out.1.grown HG3.out hg5) (HT3.out.2.trans hb5)); obtain ⟨A5, c5, rfl, hc5, hC5⟩ := Kd.R_reads HG5.out; obtain ⟨A9, c9, rfl, hc9, hC9⟩ := Kd.R_reads HW5.out; have H5 := Aside0.mk (And.intro hc5 hC5); have H9 := Aside0.mk (And.intro hc9 hC9); clear hr5 hb5 hg5 hc5 hC5 hc9 hC9))
            refine (same_calls Bs (by have := HBl.out; omega) A5 A9 c5 c9 w5 H5.out.2 H5.out.1 H9.out.2 H9.out.1).mono ?_
            rintro e w6 ⟨rfl, hd⟩
            have HS6 := Aside0.mk (And.intro (HT5.out.1.below hd.below) (below_step HT5.out.2 hd.below))
            clear hd HT5
            go_wp2_with fail
            refine (left_calls g [] false w _ HS6.out.1).mono ?_
            rintro e w7 ⟨rfl, hd⟩
            have HS7 := Aside0.mk (And.intro (HS6.out.1.below hd.below) (below_step HS6.out.2 hd.below))
            clear hd HS6
            go_wp2_with fail
            refine (bad_calls g [] false w _ HS7.out.1).mono ?_
            rintro e w8 ⟨rfl, hd⟩
            have HS8 := Aside0.mk (below_step HS7.out.2 hd.below)
            clear hd HS7
            go_wp2
            go_ret
            exact ⟨rfl, HS8.out⟩
    · have q1' : (l.length : Int) ≤ (i : Int) := by omega
      clear q1
      obtain ⟨Bs, hBs⟩ : ∃ Bs, taken i 2000 l = Bs := ⟨_, rfl⟩
      have hBl : Bs.length ≤ 20 := by rw [← hBs]; have := taken_len i 2000 l; have := HI.out; omega
      have hBz : ∀ s ∈ Bs, s.size ≤ 2000 := by rw [← hBs]; exact taken_size i 2000 l
      rw [hBs] at HI HR
      have HA := Aside0.mk HI.out.2.2.2.1
      have HF := Aside0.mk (cut_fact Bs hBz hBl)
      have HBl := Aside0.mk hBl
      have HBz := Aside0.mk hBz
      have hal : all.size ≤ 40080 := by have := HI.out; omega
      clear hBs hBl hBz HI
      go_wp2_with fail
      go_loopg [6, 11, 12] 101 (fun kq v6 v11 v12 w' => ∃ (j : Nat) (rest : ByteArray) (m : Nat) (kept : List Int), v12 = .int .i64 (j : Int) ∧ v6 = .string rest ∧ Aside0 (j + kq = 101 ∧ j ≤ 100 ∧ rest.size ≤ 40080 ∧ m ≤ Bs.length ∧ encs (Bs.drop m) = kept ++ bytesOf rest ∧ kept.length ≤ 50000) ∧ Aside0 (Kd.R Kd.string 9 w' w.heap.size (fun _ => True) u7 Bs) ∧ Aside0 (Kd.R Kd.string 9 w' w.heap.size (fun k => some k ≠ u7.ownBlock) v11 (Bs.take m)) ∧ Aside0 (St w w' g kept false ∧ Below w.heap.size w w'))
      case atStart => exact ⟨0, all, 0, [], rfl, rfl, ⟨rfl, Nat.zero_le _, hal, Nat.zero_le _, by rw [List.drop_zero, List.nil_append]; exact HA.out.symm, Nat.zero_le _⟩, HR, ⟨Kd.R_nil _ _ _ _ _⟩, HS⟩
      case round =>
        obtain ⟨j, rest, m, kept, rfl, rfl, HJ, HW, HG, HT⟩ := hrel
        clear HR HS
        have hrz : rest.size ≤ 40080 := HJ.out.2.2.1
        by_cases t1 : j < cs.length
        · by_cases t2 : j < 100
          · have t1' : (j : Int) < (cs.length : Int) := by omega
            have t2' : (j : Int) < 100 := by omega
            obtain ⟨kq1, rfl⟩ : ∃ kq1, gk = kq1 + 1 := ⟨gk - 1, by have := HJ.out; omega⟩
            obtain ⟨ad, rfl, hx⟩ := ((HD.out.below HT.out.2)).at_ (j : Int) (by omega) (by omega)
            obtain ⟨cv, hcv⟩ : ∃ cv, rd cs (j : Int) = cv := ⟨_, rfl⟩
            rw [hcv] at hx
            simp only [Int.toNat_natCast] at hx
            obtain ⟨n, hn, hnw⟩ := cut_n cv rest.size (by omega)
            have hn' : (n : Int) ≤ (rest.size : Int) := by omega
            have HN := Aside0.mk hn
            clear hn t1 t2
            go_wp2_with fail
            obtain ⟨m2, kept2, f1, f2, f3, f4, f5⟩ := HF.out m kept rest n HN.out HJ.out.2.2.2.1 HJ.out.2.2.2.2.1
            have hP0 : ((Bs.drop m).take m2).length ≤ 20 := by rw [List.length_take, List.length_drop]; have := HBl.out; omega
            generalize (Bs.drop m).take m2 = P at f1 f2 hP0
            have HPl := Aside0.mk hP0
            clear hP0
            refine (feed_calls g kept false (rest.extract 0 n) w wr HT.out.1 HT.out.2 (by have := HJ.out; omega)).mono ?_
            rw [f1]
            rintro e w3 ⟨v3, rfl, hR3, hS3, hB3, hK3⟩
            have HW3 := Aside0.mk (hK3.R HT.out.1 HW.out)
            have HG3 := Aside0.mk (hK3.R HT.out.1 HG.out)
            have HT3 := Aside0.mk (And.intro hS3 hB3)
            obtain ⟨A3, c3, rfl, hc3, hC3⟩ := Kd.R_reads hR3
            have HC3 := Aside0.mk hC3
            have HX := Aside0.mk (And.intro f2 (And.intro f3 f4))
            have hbl := HPl.out
            have hbm : (Bs.take m).length ≤ 20 := by rw [List.length_take]; have := HBl.out; omega
            have HL := Aside0.mk (And.intro hbl hbm)
            have hk2 : kept2.length ≤ 50000 := kept_bound HBz.out HBl.out f4
            have HK := Aside0.mk hk2
            clear hR3 hS3 hB3 hK3 hc3 hC3 f1 f2 f3 f4 f5 hx HW HG HT hbl hbm hk2
            go_wp2_with (first | ((with_reducible refine gate_builtin (b := .append) (xs := #[.tmp 92, .tmp 93]) rfl ?_); at_builtin; refine Kd.R_append_row Value.string ByteArray.empty (h1 := fun _ => rfl) (w0 := w3) w.heap.size rfl (.tmp 92) (.tmp 93) 27 9 (.string ⟨#[]⟩) 16 rfl Try.underlying27 info9 rfl (by decide) _ (Bs.take m) P A3 _ c3 (fun k => some k ≠ u7.ownBlock) rfl rfl (R_fresh HW3.out) HG3.out HC3.out (Below.refl _ _) HT3.out.2.size (by have := HL.out; omega) ?_; intro v1 w5 hr5 hb5 hg5 _; have HG5 := Aside0.mk hr5; have HW5 := Aside0.mk (R_other HW3.out HG3.out hg5); have HT5 := Aside0.mk (And.intro (HT3.out.1.grown HG3.out hg5) (HT3.out.2.trans hb5)); clear hr5 hb5 hg5))
            go_roundg kq1
            case measure => omega
            case rel => exact ⟨j + 1, rest.extract n rest.size, m + m2, kept2, by simp, rfl, ⟨by have := HJ.out; omega, by have := HJ.out; omega, by rw [ByteArray.size_extract]; omega, HX.out.2.1, HX.out.2.2, HK.out⟩, HW5, ⟨by rw [← HX.out.1]; exact HG5.out⟩, HT5⟩
          · have t1' : (j : Int) < (cs.length : Int) := by omega
            have t2' : (100 : Int) ≤ (j : Int) := by omega
            clear t1 t2
            have hext : rest.extract 0 rest.size = rest := by apply ByteArray.ext; simp
            obtain ⟨m2, kept2, f1, f2, f3, f4, f5⟩ := HF.out m kept rest rest.size (Nat.le_refl _) HJ.out.2.2.2.1 HJ.out.2.2.2.2.1
            obtain ⟨f6, rfl⟩ := f5 rfl
            rw [hext] at f1
            have hP0 : ((Bs.drop m).take m2).length ≤ 20 := by rw [List.length_take, List.length_drop]; have := HBl.out; omega
            generalize (Bs.drop m).take m2 = P at f1 f2 hP0
            have HPl := Aside0.mk hP0
            clear hP0
            clear f5 hext
            have HE := Aside0.mk f1
            have HX := Aside0.mk (And.intro f2 f6)
            clear f1 f2 f3 f4 f6
            go_wp2_with fail
            refine (feed_calls g kept false rest w wr HT.out.1 HT.out.2 (by have := HJ.out; omega)).mono ?_
            rw [HE.out]
            rintro e w3 ⟨v3, rfl, hR3, hS3, hB3, hK3⟩
            have HW3 := Aside0.mk (hK3.R HT.out.1 HW.out)
            have HG3 := Aside0.mk (hK3.R HT.out.1 HG.out)
            have HT3 := Aside0.mk (And.intro hS3 hB3)
            obtain ⟨A3, c3, rfl, hc3, hC3⟩ := Kd.R_reads hR3
            have HC3 := Aside0.mk hC3
            have hbl := HPl.out
            have hbm : (Bs.take m).length ≤ 20 := by rw [List.length_take]; have := HBl.out; omega
            have HL := Aside0.mk (And.intro hbl hbm)
            clear hR3 hS3 hB3 hK3 hc3 hC3 HW HG HT hbl hbm
            go_wp2_with (first | ((with_reducible refine gate_builtin (b := .append) (xs := #[.tmp 104, .tmp 105]) rfl ?_); at_builtin; refine Kd.R_append_row Value.string ByteArray.empty (h1 := fun _ => rfl) (w0 := w3) w.heap.size rfl (.tmp 104) (.tmp 105) 27 9 (.string ⟨#[]⟩) 16 rfl Try.underlying27 info9 rfl (by decide) _ (Bs.take m) P A3 _ c3 (fun k => some k ≠ u7.ownBlock) rfl rfl (R_fresh HW3.out) HG3.out HC3.out (Below.refl _ _) HT3.out.2.size (by have := HL.out; omega) ?_; intro v1 w5 hr5 hb5 hg5 _; have HG5 := Aside0.mk (show Kd.R Kd.string 9 w5 w.heap.size (fun k => some k ≠ u7.ownBlock) v1 Bs from by rw [HX.out.1, HX.out.2, List.take_of_length_le (Nat.le_refl _)] at hr5; exact hr5); have HW5 := Aside0.mk (R_other HW3.out HG3.out hg5); have HT5 := Aside0.mk (And.intro (HT3.out.1.grown HG3.out hg5) (HT3.out.2.trans hb5)); obtain ⟨A5, c5, rfl, hc5, hC5⟩ := Kd.R_reads HG5.out; obtain ⟨A9, c9, rfl, hc9, hC9⟩ := Kd.R_reads HW5.out; have H5 := Aside0.mk (And.intro hc5 hC5); have H9 := Aside0.mk (And.intro hc9 hC9); clear hr5 hb5 hg5 hc5 hC5 hc9 hC9))
            refine (same_calls Bs (by have := HBl.out; omega) A5 A9 c5 c9 w5 H5.out.2 H5.out.1 H9.out.2 H9.out.1).mono ?_
            rintro e w6 ⟨rfl, hd⟩
            have HS6 := Aside0.mk (And.intro (HT5.out.1.below hd.below) (below_step HT5.out.2 hd.below))
            clear hd HT5
            go_wp2_with fail
            refine (left_calls g [] false w _ HS6.out.1).mono ?_
            rintro e w7 ⟨rfl, hd⟩
            have HS7 := Aside0.mk (And.intro (HS6.out.1.below hd.below) (below_step HS6.out.2 hd.below))
            clear hd HS6
            go_wp2_with fail
            refine (bad_calls g [] false w _ HS7.out.1).mono ?_
            rintro e w8 ⟨rfl, hd⟩
            have HS8 := Aside0.mk (below_step HS7.out.2 hd.below)
            clear hd HS7
            go_wp2
            go_ret
            exact ⟨rfl, HS8.out⟩
        · have t1' : (cs.length : Int) ≤ (j : Int) := by omega
          clear t1
          have hext : rest.extract 0 rest.size = rest := by apply ByteArray.ext; simp
          obtain ⟨m2, kept2, f1, f2, f3, f4, f5⟩ := HF.out m kept rest rest.size (Nat.le_refl _) HJ.out.2.2.2.1 HJ.out.2.2.2.2.1
          obtain ⟨f6, rfl⟩ := f5 rfl
          rw [hext] at f1
          have hP0 : ((Bs.drop m).take m2).length ≤ 20 := by rw [List.length_take, List.length_drop]; have := HBl.out; omega
          generalize (Bs.drop m).take m2 = P at f1 f2 hP0
          have HPl := Aside0.mk hP0
          clear hP0
          clear f5 hext
          have HE := Aside0.mk f1
          have HX := Aside0.mk (And.intro f2 f6)
          clear f1 f2 f3 f4 f6
          go_wp2_with fail
          refine (feed_calls g kept false rest w wr HT.out.1 HT.out.2 (by have := HJ.out; omega)).mono ?_
          rw [HE.out]
          rintro e w3 ⟨v3, rfl, hR3, hS3, hB3, hK3⟩
          have HW3 := Aside0.mk (hK3.R HT.out.1 HW.out)
          have HG3 := Aside0.mk (hK3.R HT.out.1 HG.out)
          have HT3 := Aside0.mk (And.intro hS3 hB3)
          obtain ⟨A3, c3, rfl, hc3, hC3⟩ := Kd.R_reads hR3
          have HC3 := Aside0.mk hC3
          have hbl := HPl.out
          have hbm : (Bs.take m).length ≤ 20 := by rw [List.length_take]; have := HBl.out; omega
          have HL := Aside0.mk (And.intro hbl hbm)
          clear hR3 hS3 hB3 hK3 hc3 hC3 HW HG HT hbl hbm
          go_wp2_with (first | ((with_reducible refine gate_builtin (b := .append) (xs := #[.tmp 104, .tmp 105]) rfl ?_); at_builtin; refine Kd.R_append_row Value.string ByteArray.empty (h1 := fun _ => rfl) (w0 := w3) w.heap.size rfl (.tmp 104) (.tmp 105) 27 9 (.string ⟨#[]⟩) 16 rfl Try.underlying27 info9 rfl (by decide) _ (Bs.take m) P A3 _ c3 (fun k => some k ≠ u7.ownBlock) rfl rfl (R_fresh HW3.out) HG3.out HC3.out (Below.refl _ _) HT3.out.2.size (by have := HL.out; omega) ?_; intro v1 w5 hr5 hb5 hg5 _; have HG5 := Aside0.mk (show Kd.R Kd.string 9 w5 w.heap.size (fun k => some k ≠ u7.ownBlock) v1 Bs from by rw [HX.out.1, HX.out.2, List.take_of_length_le (Nat.le_refl _)] at hr5; exact hr5); have HW5 := Aside0.mk (R_other HW3.out HG3.out hg5); have HT5 := Aside0.mk (And.intro (HT3.out.1.grown HG3.out hg5) (HT3.out.2.trans hb5)); obtain ⟨A5, c5, rfl, hc5, hC5⟩ := Kd.R_reads HG5.out; obtain ⟨A9, c9, rfl, hc9, hC9⟩ := Kd.R_reads HW5.out; have H5 := Aside0.mk (And.intro hc5 hC5); have H9 := Aside0.mk (And.intro hc9 hC9); clear hr5 hb5 hg5 hc5 hC5 hc9 hC9))
          refine (same_calls Bs (by have := HBl.out; omega) A5 A9 c5 c9 w5 H5.out.2 H5.out.1 H9.out.2 H9.out.1).mono ?_
          rintro e w6 ⟨rfl, hd⟩
          have HS6 := Aside0.mk (And.intro (HT5.out.1.below hd.below) (below_step HT5.out.2 hd.below))
          clear hd HT5
          go_wp2_with fail
          refine (left_calls g [] false w _ HS6.out.1).mono ?_
          rintro e w7 ⟨rfl, hd⟩
          have HS7 := Aside0.mk (And.intro (HS6.out.1.below hd.below) (below_step HS6.out.2 hd.below))
          clear hd HS6
          go_wp2_with fail
          refine (bad_calls g [] false w _ HS7.out.1).mono ?_
          rintro e w8 ⟨rfl, hd⟩
          have HS8 := Aside0.mk (below_step HS7.out.2 hd.below)
          clear hd HS7
          go_wp2
          go_ret
          exact ⟨rfl, HS8.out⟩
end Go.Proofs.Ytmfbmagbpceomaa.Wire
namespace Go.Proofs.Ytmfbmagbpceomaa.Wire
open Go.RowKit Go.Proofs.YtmfbmagbpceomaaW.PrintWords
theorem cuts_walk' (A : Option Addr) (l : List ByteArray) (c : Nat) (a : Option Addr) (len cap : Nat) (zs : List Int) (w : World) (h : Kd.C Kd.string w A l.length l) (hc : l.length ≤ c) (hr : (a = none ∧ len = 0 ∧ cap = 0 ∧ zs = []) ∨ ∃ x, a = some x ∧ len ≤ cap ∧ cap ≤ maxLen ∧ zs.length = cap ∧ (∀ i, i < zs.length → w.cell? (x.add i) = some (.int .i64 (zs.getD i 0))) ∧ ∀ n ∈ zs, (Lit.int .i64 n).wf = true) :
    Calls Try.prog 10 #[.slice A l.length c, .slice a len cap] w fun e w' => e = .returned (.bool true) ∧ Below w.heap.size w w' := by
  obtain ⟨cs, rfl, hR, _, _, hcap⟩ := ReadsInt.ofRowC hr
  exact cuts_walk A l c a cs cap w h hc hR hcap
end Go.Proofs.Ytmfbmagbpceomaa.Wire
