import Derived.Test.YtmfbmagbpceomaaWireBad1
namespace Go.Proofs.Ytmfbmagbpceomaa.Wire
open Go.RowKit Go.Proofs.YtmfbmagbpceomaaW.PrintWords Go.Proofs.YtmfbmagbpceomaaW.PrintLast Go.Proofs.YtmfbmagbpceomaaW.PrintMore
attribute [local go_sem] max2_int min2_int max_two min_two max_three min_three max_four min_four
set_option linter.unusedVariables false
set_option linter.unusedSimpArgs false
theorem len_wsum' (l : List ByteArray) : l.length ≤ wsum l := by
  induction l with
  | nil => simp [wsum]
  | cons x l ih => simp only [List.length_cons, wsum]; omega
theorem below_drew0 (w : World) (n : Nat) : Below w.heap.size w (w.drewN n) := pw_below_drewN (Below.refl _ _) n
theorem feed_true (kept : List Int) (b : ByteArray) : feedF kept true b = ([], 70, kept, true) := rfl
theorem hd4_u32 (n : Nat) (h : n < 4294967296) : ([(n : Int) / 16777216, ((n : Int) / 65536) % 256, ((n : Int) / 256) % 256, (n : Int) % 256] : List Int) = hd4 n := by
  unfold hd4
  congr 1 <;> omega
theorem bad_fact (m : Int) (bh all : ByteArray) (Bs : List ByteArray) (hm0 : 0 ≤ m) (hm1 : m < 4294967296) (hl : Bs.length ≤ 10) (hz : ∀ s ∈ Bs, s.size ≤ 2000) (ha : bytesOf all = encs Bs) :
    ∀ n : Int, (if m < 65537 then (65537 : Int) else m) = n → ∀ y : List Int, y = ([n / 16777216, (n / 65536) % 256, (n / 256) % 256, n % 256] : List Int) → ∀ S4, strOfNums y = S4 →
    ∀ b : ByteArray, b.size ≤ 1000 → feedF [] false ((all ++ S4) ++ b) = (Bs, 70, [], true) := by
  intro n hn y hy S4 hS b hb
  obtain ⟨N, rfl⟩ : ∃ N : Nat, n = (N : Int) := ⟨n.toNat, by split at hn <;> omega⟩
  have hN := hn
  have hN1 : N < 4294967296 := by split at hN <;> omega
  have hN0 : 65536 < N := by split at hN <;> omega
  have hsz : ((all ++ S4) ++ b).size ≤ 262144 := by
    have h1 : all.size = wsum Bs := by rw [← encs_wsum, ← ha, bytesOf_length]
    have h2 := wsum_bound 2000 Bs hz
    have h3 : S4.size = 4 := by rw [← hS, strOfNums_size, hy]; rfl
    have h4 : Bs.length * (4 + 2000) ≤ 10 * 2004 := Nat.mul_le_mul_right _ hl
    rw [ByteArray.size_append, ByteArray.size_append]; omega
  rw [feedF_pr _ _ (by omega)]
  have e : bytesOf ((all ++ S4) ++ b) = encs Bs ++ (hd4 N ++ bytesOf b) := by
    rw [bytesOf_append, bytesOf_append, ha, ← hS, hy, hd4_u32 _ hN1, bytesOf_strOfNums _ (hd4_byte _), List.append_assoc]
  rw [e, List.nil_append]
  refine pr_bad N hN0 hN1 _ Bs (fun s hs => by have := hz s hs; omega) _ ?_
  have hlw : Bs.length ≤ wsum Bs := by
    exact len_wsum' Bs
  rw [List.length_append, List.length_append, hd4_len, encs_wsum]; omega
set_option maxRecDepth 100000 in
set_option maxHeartbeats 4000000 in
theorem bad_walk (A : Option Addr) (l : List ByteArray) (c : Nat) (m : Int) (bh : ByteArray) (w : World) (h : Kd.C Kd.string w A l.length l) (hc : l.length ≤ c) (hm0 : 0 ≤ m) (hm1 : m < 4294967296) (hb : bh.size ≤ 140737488351232) :
    Calls Try.prog 11 #[.slice A l.length c, .int .u32 m, .string bh] w fun e w' => e = .returned (.bool true) ∧ Below w.heap.size w w' := by
  have HC := Aside0.mk h
  clear h
  go_enter Try.func11, Try.ntmps11
  go_wp2_with fail
  refine (new_calls w w (Below.refl _ _)).mono ?_
  rintro e w1 ⟨g, rfl, hS, hB, _⟩
  have HS := Aside0.mk hS
  have HB := Aside0.mk hB
  clear hS hB
  go_wp2_with fail
  refine (works_calls w1).mono ?_
  rintro e w2 ⟨rfl, hb2⟩
  have HS2 := Aside0.mk (HS.out.below hb2)
  have HB2 := Aside0.mk (below_step HB.out hb2)
  clear hb2 HS HB
  go_wp2_with fail
  go_loopg [8, 9, 10] 11 (fun kq v8 v9 v10 w' => ∃ (i : Nat) (all : ByteArray), v10 = .int .i64 (i : Int) ∧ v8 = .string all ∧ Aside0 (i + kq = 11 ∧ i ≤ 10 ∧ i ≤ l.length ∧ bytesOf all = encs (taken i 2000 l) ∧ all.size ≤ i * 2004) ∧ Aside0 (Kd.R Kd.string 9 w' w.heap.size (fun _ => True) v9 (taken i 2000 l)) ∧ Aside0 (St w w' g [] false ∧ Below w.heap.size w w'))
  case atStart => exact ⟨0, ⟨#[]⟩, rfl, rfl, ⟨rfl, Nat.zero_le _, Nat.zero_le _, rfl, Nat.zero_le _⟩, ⟨Kd.R_nil _ _ _ _ _⟩, ⟨HS2.out, HB2.out⟩⟩
  case round =>
    obtain ⟨i, all, rfl, rfl, HI, HR, HS⟩ := hrel
    clear HS2 HB2
    by_cases q1 : i < l.length
    · by_cases q2 : i < 10
      · obtain ⟨kq1, rfl⟩ : ∃ kq1, gk = kq1 + 1 := ⟨gk - 1, by have := HI.out; omega⟩
        obtain ⟨ad, rfl, hx⟩ := Kd.at_string (Kd.C_below HC.out HS.out.2) (i : Int) (by omega) (by omega)
        obtain ⟨s, hs⟩ : ∃ s, rdOf ByteArray.empty l (i : Int) = s := ⟨_, rfl⟩
        rw [hs] at hx
        have q1' : (i : Int) < (l.length : Int) := by omega
        have q2' : (i : Int) < 10 := by omega
        have ht := taken_succ 2000 i l q1
        have hs0 : l.getD i ByteArray.empty = s := by rw [← hs]; unfold rdOf; simp
        rw [hs0] at ht
        have HT := Aside0.mk ht
        have HQ := Aside0.mk (And.intro q1 q2)
        clear hs hs0 ht q1 q2
        simp only [Int.toNat_natCast] at hx
        by_cases hbig : 2000 < s.size
        · have hbig' : (2000 : Int) < (s.size : Int) := by omega
          go_wp2_with fail
          go_roundg kq1
          case measure => omega
          case rel => exact ⟨i + 1, all, by simp, rfl, ⟨by have := HI.out; omega, by have := HQ.out; omega, by have := HQ.out; omega, by rw [HT.out, if_neg (by omega)]; exact HI.out.2.2.2.1, by have := HI.out; omega⟩, ⟨by rw [HT.out, if_neg (by omega)]; exact HR.out⟩, HS⟩
        · have hbig' : ¬ (2000 : Int) < (s.size : Int) := by omega
          have ht2 : taken (i + 1) 2000 l = taken i 2000 l ++ [s] := by rw [HT.out, if_pos (by omega)]
          have HT2 := Aside0.mk ht2
          have hsz : all.size ≤ 20040 := by have := HI.out; have := HQ.out; omega
          have hlen := taken_len i 2000 l
          have HL := Aside0.mk (show (taken i 2000 l).length ≤ 10 by have := HQ.out; omega)
          clear ht2 hlen HT
          go_wp2_with fail
          refine (packet_calls s (by omega) _).mono ?_
          rintro e w3 ⟨rfl, hb3⟩
          have hps := packet_size s
          have HP := Aside0.mk (bytesOf_packet s)
          obtain ⟨p, hp⟩ : ∃ p, strOfNums (hd4 s.size) ++ s = p := ⟨_, rfl⟩
          rw [hp] at hps
          rw [hp] at HP
          rw [hp]
          have hx3 := (Below.cell (p := ad.add i) hb3 (World.block_lt_of_cell? _ _ hx)).trans hx
          have HR3 := Aside0.mk (Kd.R_below HR.out hb3)
          have HS3 := Aside0.mk (And.intro (HS.out.1.below hb3) (below_step HS.out.2 hb3))
          have hps2 : p.size ≤ 2004 := by omega
          have HP2 := Aside0.mk hps
          clear hb3 hx HS HR hp hps
          go_wp2_with (first | ((with_reducible refine gate_builtin (b := .append) (xs := #[.tmp 52, .tmp 57]) rfl ?_); at_builtin; refine Kd.R_append Kd.string (w0 := w3) w.heap.size rfl (.tmp 52) (.tmp 57) 27 9 (.string ⟨#[]⟩) 16 rfl Try.underlying27 info9 rfl (by decide) (by omega) _ (taken i 2000 l) s [.string s] (fun _ => True) (fun _ => False) rfl rfl rfl (fun _ h => h.elim) (fun _ _ => trivial) HR3.out (Below.refl _ _) HS3.out.2.size (by have := HL.out; omega) ?_; intro v1 w5 hr5 hb5 hg5 _; have HR5 := Aside0.mk hr5; have HS5 := Aside0.mk (And.intro (HS3.out.1.grown HR3.out hg5) (HS3.out.2.trans hb5)); clear hr5 hb5 hg5 hx3))
          go_roundg kq1
          case measure => omega
          case rel => exact ⟨i + 1, all ++ p, by simp, rfl, ⟨by have := HI.out; omega, by have := HQ.out; omega, by have := HQ.out; omega, by rw [HT2.out, encs_append, bytesOf_append, HP.out, HI.out.2.2.2.1], by have := HI.out; have := HP2.out; rw [ByteArray.size_append]; omega⟩, ⟨by rw [HT2.out]; exact HR5.out⟩, HS5⟩
      · have q1' : (i : Int) < (l.length : Int) := by omega
        have q2' : (10 : Int) ≤ (i : Int) := by omega
        clear q1 q2
        obtain ⟨Bs, hBs⟩ : ∃ Bs, taken i 2000 l = Bs := ⟨_, rfl⟩
        have hBl : Bs.length ≤ 10 := by rw [← hBs]; have := taken_len i 2000 l; have := HI.out; omega
        have hBz : ∀ s ∈ Bs, s.size ≤ 2000 := by rw [← hBs]; exact taken_size i 2000 l
        rw [hBs] at HI HR
        have HF := Aside0.mk (bad_fact m bh all Bs hm0 hm1 hBl hBz HI.out.2.2.2.1)
        have HBl := Aside0.mk hBl
        have hal : all.size ≤ 20040 := by have := HI.out; omega
        clear hBs hBl hBz HI
        obtain ⟨n, hn⟩ : ∃ n : Int, (if m < 65537 then (65537 : Int) else m) = n := ⟨_, rfl⟩
        have hn0 : 65537 ≤ n := by rw [← hn]; split <;> omega
        have hn1 : n < 4294967296 := by rw [← hn]; split <;> omega
        obtain ⟨y, hy⟩ : ∃ y : List Int, y = ([n / 16777216, (n / 65536) % 256, (n / 256) % 256, n % 256] : List Int) := ⟨_, rfl⟩
        have Ny := Aside0.mk hy
        obtain ⟨S4, hS4⟩ : ∃ S4, strOfNums y = S4 := ⟨_, rfl⟩
        have NS := Aside0.mk hS4
        have hz4 : S4.size = 4 := by rw [← hS4, strOfNums_size, hy]; rfl
        clear hy hS4
        have hz4' : S4.size ≤ 4 := by omega
        have HF2 := HF.out n hn y Ny.out S4 NS.out
        clear HF hz4
        have HF := Aside0.mk HF2
        clear HF2
        by_cases hbig : 1000 < bh.size
        · have hbig' : (1000 : Int) < (bh.size : Int) := by omega
          go_wp2_with (first | ((with_reducible refine gate_dst (N := 73) rfl ?_); refine Kd.R_lit (Kd.int .u8) _ 5 ?hg (N := 73) ?hd (xs := ([n / 16777216, (n / 65536) % 256, (n / 256) % 256, n % 256] : List Int)) (inner := [.int .u8 (n / 16777216), .int .u8 ((n / 65536) % 256), .int .u8 ((n / 256) % 256), .int .u8 ((n) % 256)]) (ok := fun _ => True) (okp := fun _ => True) ?hr ?hp (fun _ hk => hk) trivial (Below.refl _ _) (Nat.le_refl _) (by simp) ?_; (case hd => rfl); (case hg => rfl); (case hr => first | (go_simp; done) | (go_simp; rfl)); (case hp => exact (Reps.one (show Kd.M (Kd.int .u8) _ _ _ (n / 16777216) [.int .u8 (n / 16777216)] from rfl) (Reps.one (show Kd.M (Kd.int .u8) _ _ _ ((n / 65536) % 256) [.int .u8 ((n / 65536) % 256)] from rfl) (Reps.one (show Kd.M (Kd.int .u8) _ _ _ ((n / 256) % 256) [.int .u8 ((n / 256) % 256)] from rfl) (Reps.one (show Kd.M (Kd.int .u8) _ _ _ ((n) % 256) [.int .u8 ((n) % 256)] from rfl) (Reps.none _ _)))))); intro v73 w4 ho5 hb5 hg_ hnew_; clear hg_ hnew_; (first | rw [← Ny.out] at ho5 | (simp only [Int.reduceToNat] at ho5; rw [← Ny.out] at ho5)); have HS4 := Aside0.mk (And.intro (HS.out.1.below hb5) (below_step HS.out.2 hb5)); have HR4 := Aside0.mk (Kd.R_below HR.out hb5); have hcv6 := own_string (P := Try.prog) Try.underlying23 Try.underlying5 Try.underlying9 (Kd.own_of_R ho5); rw [NS.out] at hcv6; clear hb5 ho5 HS HR))
          refine (feed_calls g [] false ((all ++ S4) ++ bh.extract 0 1000) w _ HS4.out.1 HS4.out.2 (by simp)).mono ?_
          rw [HF.out _ (by rw [ByteArray.size_extract]; omega)]
          rintro e w5 ⟨v5, rfl, hR5, hS5, hB5, hK5⟩
          have HR5 := Aside0.mk hR5
          have HW5 := Aside0.mk (hK5.R HS4.out.1 HR4.out)
          have HS5 := Aside0.mk (And.intro hS5 hB5)
          clear hR5 hS5 hB5 hK5 HS4 HR4 hcv6 HF
          obtain ⟨A5, c5, rfl, hc5, hC5⟩ := Kd.R_reads HR5.out
          obtain ⟨A9, c9, rfl, hc9, hC9⟩ := Kd.R_reads HW5.out
          have H5 := Aside0.mk (And.intro hc5 hC5)
          have H9 := Aside0.mk (And.intro hc9 hC9)
          clear hc5 hC5 hc9 hC9
          go_wp2_with fail
          refine (same_calls Bs (by have := HBl.out; omega) A5 A9 c5 c9 w5 H5.out.2 H5.out.1 H9.out.2 H9.out.1).mono ?_
          rintro e w6 ⟨rfl, hd⟩
          have HS6 := Aside0.mk (And.intro (HS5.out.1.below hd.below) (below_step HS5.out.2 hd.below))
          clear hd HS5
          go_wp2_with fail
          refine (bad_calls g [] true w _ HS6.out.1).mono ?_
          rintro e w7 ⟨rfl, hd⟩
          have HS7 := Aside0.mk (And.intro (HS6.out.1.below hd.below) (below_step HS6.out.2 hd.below))
          clear hd HS6
          go_wp2_with fail
          refine (left_calls g [] true w _ HS7.out.1).mono ?_
          rintro e w8 ⟨rfl, hd⟩
          have HS8 := Aside0.mk (And.intro (HS7.out.1.below hd.below) (below_step HS7.out.2 hd.below))
          clear hd HS7
          go_wp2_with fail
          refine (packet_calls ⟨#[120]⟩ (by decide) _).mono ?_
          rintro e w9 ⟨rfl, hb9⟩
          have HS9 := Aside0.mk (And.intro (HS8.out.1.below hb9) (below_step HS8.out.2 hb9))
          clear hb9 HS8
          go_wp2_with fail
          refine (feed_calls g [] true _ w _ HS9.out.1 HS9.out.2 (by simp)).mono ?_
          rw [feed_true]
          rintro e w10 ⟨v10, rfl, hR10, hS10, hB10, hK10⟩
          obtain ⟨A10, c10, rfl, _, _⟩ := Kd.R_reads hR10
          have HB10 := Aside0.mk hB10
          clear hR10 hS10 hB10 hK10
          go_wp2
          go_ret
          exact ⟨rfl, HB10.out⟩
        · have hbig' : ¬ (1000 : Int) < (bh.size : Int) := by omega
          go_wp2_with (first | ((with_reducible refine gate_dst (N := 73) rfl ?_); refine Kd.R_lit (Kd.int .u8) _ 5 ?hg (N := 73) ?hd (xs := ([n / 16777216, (n / 65536) % 256, (n / 256) % 256, n % 256] : List Int)) (inner := [.int .u8 (n / 16777216), .int .u8 ((n / 65536) % 256), .int .u8 ((n / 256) % 256), .int .u8 ((n) % 256)]) (ok := fun _ => True) (okp := fun _ => True) ?hr ?hp (fun _ hk => hk) trivial (Below.refl _ _) (Nat.le_refl _) (by simp) ?_; (case hd => rfl); (case hg => rfl); (case hr => first | (go_simp; done) | (go_simp; rfl)); (case hp => exact (Reps.one (show Kd.M (Kd.int .u8) _ _ _ (n / 16777216) [.int .u8 (n / 16777216)] from rfl) (Reps.one (show Kd.M (Kd.int .u8) _ _ _ ((n / 65536) % 256) [.int .u8 ((n / 65536) % 256)] from rfl) (Reps.one (show Kd.M (Kd.int .u8) _ _ _ ((n / 256) % 256) [.int .u8 ((n / 256) % 256)] from rfl) (Reps.one (show Kd.M (Kd.int .u8) _ _ _ ((n) % 256) [.int .u8 ((n) % 256)] from rfl) (Reps.none _ _)))))); intro v73 w4 ho5 hb5 hg_ hnew_; clear hg_ hnew_; (first | rw [← Ny.out] at ho5 | (simp only [Int.reduceToNat] at ho5; rw [← Ny.out] at ho5)); have HS4 := Aside0.mk (And.intro (HS.out.1.below hb5) (below_step HS.out.2 hb5)); have HR4 := Aside0.mk (Kd.R_below HR.out hb5); have hcv6 := own_string (P := Try.prog) Try.underlying23 Try.underlying5 Try.underlying9 (Kd.own_of_R ho5); rw [NS.out] at hcv6; clear hb5 ho5 HS HR))
          refine (feed_calls g [] false ((all ++ S4) ++ bh) w _ HS4.out.1 HS4.out.2 (by simp)).mono ?_
          rw [HF.out _ (by omega)]
          rintro e w5 ⟨v5, rfl, hR5, hS5, hB5, hK5⟩
          have HR5 := Aside0.mk hR5
          have HW5 := Aside0.mk (hK5.R HS4.out.1 HR4.out)
          have HS5 := Aside0.mk (And.intro hS5 hB5)
          clear hR5 hS5 hB5 hK5 HS4 HR4 hcv6 HF
          obtain ⟨A5, c5, rfl, hc5, hC5⟩ := Kd.R_reads HR5.out
          obtain ⟨A9, c9, rfl, hc9, hC9⟩ := Kd.R_reads HW5.out
          have H5 := Aside0.mk (And.intro hc5 hC5)
          have H9 := Aside0.mk (And.intro hc9 hC9)
          clear hc5 hC5 hc9 hC9
          go_wp2_with fail
          refine (same_calls Bs (by have := HBl.out; omega) A5 A9 c5 c9 w5 H5.out.2 H5.out.1 H9.out.2 H9.out.1).mono ?_
          rintro e w6 ⟨rfl, hd⟩
          have HS6 := Aside0.mk (And.intro (HS5.out.1.below hd.below) (below_step HS5.out.2 hd.below))
          clear hd HS5
          go_wp2_with fail
          refine (bad_calls g [] true w _ HS6.out.1).mono ?_
          rintro e w7 ⟨rfl, hd⟩
          have HS7 := Aside0.mk (And.intro (HS6.out.1.below hd.below) (below_step HS6.out.2 hd.below))
          clear hd HS6
          go_wp2_with fail
          refine (left_calls g [] true w _ HS7.out.1).mono ?_
          rintro e w8 ⟨rfl, hd⟩
          have HS8 := Aside0.mk (And.intro (HS7.out.1.below hd.below) (below_step HS7.out.2 hd.below))
          clear hd HS7
          go_wp2_with fail
          refine (packet_calls ⟨#[120]⟩ (by decide) _).mono ?_
          rintro e w9 ⟨rfl, hb9⟩
          have HS9 := Aside0.mk (And.intro (HS8.out.1.below hb9) (below_step HS8.out.2 hb9))
          clear hb9 HS8
          go_wp2_with fail
          refine (feed_calls g [] true _ w _ HS9.out.1 HS9.out.2 (by simp)).mono ?_
          rw [feed_true]
          rintro e w10 ⟨v10, rfl, hR10, hS10, hB10, hK10⟩
          obtain ⟨A10, c10, rfl, _, _⟩ := Kd.R_reads hR10
          have HB10 := Aside0.mk hB10
          clear hR10 hS10 hB10 hK10
          go_wp2
          go_ret
          exact ⟨rfl, HB10.out⟩
    · have q1' : (l.length : Int) ≤ (i : Int) := by omega
      clear q1
      obtain ⟨Bs, hBs⟩ : ∃ Bs, taken i 2000 l = Bs := ⟨_, rfl⟩
      have hBl : Bs.length ≤ 10 := by rw [← hBs]; have := taken_len i 2000 l; have := HI.out; omega
      have hBz : ∀ s ∈ Bs, s.size ≤ 2000 := by rw [← hBs]; exact taken_size i 2000 l
      rw [hBs] at HI HR
      have HF := Aside0.mk (bad_fact m bh all Bs hm0 hm1 hBl hBz HI.out.2.2.2.1)
      have HBl := Aside0.mk hBl
      have hal : all.size ≤ 20040 := by have := HI.out; omega
      clear hBs hBl hBz HI
      obtain ⟨n, hn⟩ : ∃ n : Int, (if m < 65537 then (65537 : Int) else m) = n := ⟨_, rfl⟩
      have hn0 : 65537 ≤ n := by rw [← hn]; split <;> omega
      have hn1 : n < 4294967296 := by rw [← hn]; split <;> omega
      obtain ⟨y, hy⟩ : ∃ y : List Int, y = ([n / 16777216, (n / 65536) % 256, (n / 256) % 256, n % 256] : List Int) := ⟨_, rfl⟩
      have Ny := Aside0.mk hy
      obtain ⟨S4, hS4⟩ : ∃ S4, strOfNums y = S4 := ⟨_, rfl⟩
      have NS := Aside0.mk hS4
      have hz4 : S4.size = 4 := by rw [← hS4, strOfNums_size, hy]; rfl
      clear hy hS4
      have hz4' : S4.size ≤ 4 := by omega
      have HF2 := HF.out n hn y Ny.out S4 NS.out
      clear HF hz4
      have HF := Aside0.mk HF2
      clear HF2
      by_cases hbig : 1000 < bh.size
      · have hbig' : (1000 : Int) < (bh.size : Int) := by omega
        go_wp2_with (first | ((with_reducible refine gate_dst (N := 73) rfl ?_); refine Kd.R_lit (Kd.int .u8) _ 5 ?hg (N := 73) ?hd (xs := ([n / 16777216, (n / 65536) % 256, (n / 256) % 256, n % 256] : List Int)) (inner := [.int .u8 (n / 16777216), .int .u8 ((n / 65536) % 256), .int .u8 ((n / 256) % 256), .int .u8 ((n) % 256)]) (ok := fun _ => True) (okp := fun _ => True) ?hr ?hp (fun _ hk => hk) trivial (Below.refl _ _) (Nat.le_refl _) (by simp) ?_; (case hd => rfl); (case hg => rfl); (case hr => first | (go_simp; done) | (go_simp; rfl)); (case hp => exact (Reps.one (show Kd.M (Kd.int .u8) _ _ _ (n / 16777216) [.int .u8 (n / 16777216)] from rfl) (Reps.one (show Kd.M (Kd.int .u8) _ _ _ ((n / 65536) % 256) [.int .u8 ((n / 65536) % 256)] from rfl) (Reps.one (show Kd.M (Kd.int .u8) _ _ _ ((n / 256) % 256) [.int .u8 ((n / 256) % 256)] from rfl) (Reps.one (show Kd.M (Kd.int .u8) _ _ _ ((n) % 256) [.int .u8 ((n) % 256)] from rfl) (Reps.none _ _)))))); intro v73 w4 ho5 hb5 hg_ hnew_; clear hg_ hnew_; (first | rw [← Ny.out] at ho5 | (simp only [Int.reduceToNat] at ho5; rw [← Ny.out] at ho5)); have HS4 := Aside0.mk (And.intro (HS.out.1.below hb5) (below_step HS.out.2 hb5)); have HR4 := Aside0.mk (Kd.R_below HR.out hb5); have hcv6 := own_string (P := Try.prog) Try.underlying23 Try.underlying5 Try.underlying9 (Kd.own_of_R ho5); rw [NS.out] at hcv6; clear hb5 ho5 HS HR))
        refine (feed_calls g [] false ((all ++ S4) ++ bh.extract 0 1000) w _ HS4.out.1 HS4.out.2 (by simp)).mono ?_
        rw [HF.out _ (by rw [ByteArray.size_extract]; omega)]
        rintro e w5 ⟨v5, rfl, hR5, hS5, hB5, hK5⟩
        have HR5 := Aside0.mk hR5
        have HW5 := Aside0.mk (hK5.R HS4.out.1 HR4.out)
        have HS5 := Aside0.mk (And.intro hS5 hB5)
        clear hR5 hS5 hB5 hK5 HS4 HR4 hcv6 HF
        obtain ⟨A5, c5, rfl, hc5, hC5⟩ := Kd.R_reads HR5.out
        obtain ⟨A9, c9, rfl, hc9, hC9⟩ := Kd.R_reads HW5.out
        have H5 := Aside0.mk (And.intro hc5 hC5)
        have H9 := Aside0.mk (And.intro hc9 hC9)
        clear hc5 hC5 hc9 hC9
        go_wp2_with fail
        refine (same_calls Bs (by have := HBl.out; omega) A5 A9 c5 c9 w5 H5.out.2 H5.out.1 H9.out.2 H9.out.1).mono ?_
        rintro e w6 ⟨rfl, hd⟩
        have HS6 := Aside0.mk (And.intro (HS5.out.1.below hd.below) (below_step HS5.out.2 hd.below))
        clear hd HS5
        go_wp2_with fail
        refine (bad_calls g [] true w _ HS6.out.1).mono ?_
        rintro e w7 ⟨rfl, hd⟩
        have HS7 := Aside0.mk (And.intro (HS6.out.1.below hd.below) (below_step HS6.out.2 hd.below))
        clear hd HS6
        go_wp2_with fail
        refine (left_calls g [] true w _ HS7.out.1).mono ?_
        rintro e w8 ⟨rfl, hd⟩
        have HS8 := Aside0.mk (And.intro (HS7.out.1.below hd.below) (below_step HS7.out.2 hd.below))
        clear hd HS7
        go_wp2_with fail
        refine (packet_calls ⟨#[120]⟩ (by decide) _).mono ?_
        rintro e w9 ⟨rfl, hb9⟩
        have HS9 := Aside0.mk (And.intro (HS8.out.1.below hb9) (below_step HS8.out.2 hb9))
        clear hb9 HS8
        go_wp2_with fail
        refine (feed_calls g [] true _ w _ HS9.out.1 HS9.out.2 (by simp)).mono ?_
        rw [feed_true]
        rintro e w10 ⟨v10, rfl, hR10, hS10, hB10, hK10⟩
        obtain ⟨A10, c10, rfl, _, _⟩ := Kd.R_reads hR10
        have HB10 := Aside0.mk hB10
        clear hR10 hS10 hB10 hK10
        go_wp2
        go_ret
        exact ⟨rfl, HB10.out⟩
      · have hbig' : ¬ (1000 : Int) < (bh.size : Int) := by omega
        go_wp2_with (first | ((with_reducible refine gate_dst (N := 73) rfl ?_); refine Kd.R_lit (Kd.int .u8) _ 5 ?hg (N := 73) ?hd (xs := ([n / 16777216, (n / 65536) % 256, (n / 256) % 256, n % 256] : List Int)) (inner := [.int .u8 (n / 16777216), .int .u8 ((n / 65536) % 256), .int .u8 ((n / 256) % 256), .int .u8 ((n) % 256)]) (ok := fun _ => True) (okp := fun _ => True) ?hr ?hp (fun _ hk => hk) trivial (Below.refl _ _) (Nat.le_refl _) (by simp) ?_; (case hd => rfl); (case hg => rfl); (case hr => first | (go_simp; done) | (go_simp; rfl)); (case hp => exact (Reps.one (show Kd.M (Kd.int .u8) _ _ _ (n / 16777216) [.int .u8 (n / 16777216)] from rfl) (Reps.one (show Kd.M (Kd.int .u8) _ _ _ ((n / 65536) % 256) [.int .u8 ((n / 65536) % 256)] from rfl) (Reps.one (show Kd.M (Kd.int .u8) _ _ _ ((n / 256) % 256) [.int .u8 ((n / 256) % 256)] from rfl) (Reps.one (show Kd.M (Kd.int .u8) _ _ _ ((n) % 256) [.int .u8 ((n) % 256)] from rfl) (Reps.none _ _)))))); intro v73 w4 ho5 hb5 hg_ hnew_; clear hg_ hnew_; (first | rw [← Ny.out] at ho5 | (simp only [Int.reduceToNat] at ho5; rw [← Ny.out] at ho5)); have HS4 := Aside0.mk (And.intro (HS.out.1.below hb5) (below_step HS.out.2 hb5)); have HR4 := Aside0.mk (Kd.R_below HR.out hb5); have hcv6 := own_string (P := Try.prog) Try.underlying23 Try.underlying5 Try.underlying9 (Kd.own_of_R ho5); rw [NS.out] at hcv6; clear hb5 ho5 HS HR))
        refine (feed_calls g [] false ((all ++ S4) ++ bh) w _ HS4.out.1 HS4.out.2 (by simp)).mono ?_
        rw [HF.out _ (by omega)]
        rintro e w5 ⟨v5, rfl, hR5, hS5, hB5, hK5⟩
        have HR5 := Aside0.mk hR5
        have HW5 := Aside0.mk (hK5.R HS4.out.1 HR4.out)
        have HS5 := Aside0.mk (And.intro hS5 hB5)
        clear hR5 hS5 hB5 hK5 HS4 HR4 hcv6 HF
        obtain ⟨A5, c5, rfl, hc5, hC5⟩ := Kd.R_reads HR5.out
        obtain ⟨A9, c9, rfl, hc9, hC9⟩ := Kd.R_reads HW5.out
        have H5 := Aside0.mk (And.intro hc5 hC5)
        have H9 := Aside0.mk (And.intro hc9 hC9)
        clear hc5 hC5 hc9 hC9
        go_wp2_with fail
        refine (same_calls Bs (by have := HBl.out; omega) A5 A9 c5 c9 w5 H5.out.2 H5.out.1 H9.out.2 H9.out.1).mono ?_
        rintro e w6 ⟨rfl, hd⟩
        have HS6 := Aside0.mk (And.intro (HS5.out.1.below hd.below) (below_step HS5.out.2 hd.below))
        clear hd HS5
        go_wp2_with fail
        refine (bad_calls g [] true w _ HS6.out.1).mono ?_
        rintro e w7 ⟨rfl, hd⟩
        have HS7 := Aside0.mk (And.intro (HS6.out.1.below hd.below) (below_step HS6.out.2 hd.below))
        clear hd HS6
        go_wp2_with fail
        refine (left_calls g [] true w _ HS7.out.1).mono ?_
        rintro e w8 ⟨rfl, hd⟩
        have HS8 := Aside0.mk (And.intro (HS7.out.1.below hd.below) (below_step HS7.out.2 hd.below))
        clear hd HS7
        go_wp2_with fail
        refine (packet_calls ⟨#[120]⟩ (by decide) _).mono ?_
        rintro e w9 ⟨rfl, hb9⟩
        have HS9 := Aside0.mk (And.intro (HS8.out.1.below hb9) (below_step HS8.out.2 hb9))
        clear hb9 HS8
        go_wp2_with fail
        refine (feed_calls g [] true _ w _ HS9.out.1 HS9.out.2 (by simp)).mono ?_
        rw [feed_true]
        rintro e w10 ⟨v10, rfl, hR10, hS10, hB10, hK10⟩
        obtain ⟨A10, c10, rfl, _, _⟩ := Kd.R_reads hR10
        have HB10 := Aside0.mk hB10
        clear hR10 hS10 hB10 hK10
        go_wp2
        go_ret
        exact ⟨rfl, HB10.out⟩
end Go.Proofs.Ytmfbmagbpceomaa.Wire
namespace Go.Proofs.Ytmfbmagbpceomaa.Wire
open Go.RowKit Go.Proofs.YtmfbmagbpceomaaW.PrintWords
theorem wf_u32' {n : Int} (h : (Lit.int .u32 n).wf = true) : 0 ≤ n ∧ n < 4294967296 := by
  simp [Lit.wf, IntKind.min, IntKind.max, IntKind.bits, IntKind.signed] at h
  omega
theorem bad_walk' (A : Option Addr) (l : List ByteArray) (c : Nat) (m : Int) (bh : ByteArray) (w : World) (h : Kd.C Kd.string w A l.length l) (hc : l.length ≤ c) (hm : (Lit.int .u32 m).wf = true) (hb : bh.size ≤ 140737488351232) :
    Calls Try.prog 11 #[.slice A l.length c, .int .u32 m, .string bh] w fun e w' => e = .returned (.bool true) ∧ Below w.heap.size w w' :=
  bad_walk A l c m bh w h hc (wf_u32' hm).1 (wf_u32' hm).2 hb
end Go.Proofs.Ytmfbmagbpceomaa.Wire
