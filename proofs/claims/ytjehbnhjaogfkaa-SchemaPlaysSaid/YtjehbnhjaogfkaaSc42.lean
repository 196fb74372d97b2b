import Derived.Test.YtjehbnhjaogfkaaSc40
import Derived.Test.YtjehbnhjaogfkaaSc41
import Derived.Test.YtjehbnhjaogfkaaSc20
namespace Go.Proofs.Ytjehbnhjaogfkaa.Sc
open Go.RowKit Go.Lib Go.Maps Go.WideAt Go.WideShapes Go.Proofs.YtjehbnhjaogfkaaW.PrintWords Go.Proofs.YtjehbnhjaogfkaaW.PrintLast Go.Proofs.YtjehbnhjaogfkaaW.PrintMore
open Go.Proofs.Ytjehbnhjaogfkaa
set_option linter.unusedVariables false
set_option linter.unusedSimpArgs false
theorem dec_walk (W : World) (b : ByteArray) (hl : b.size ≤ maxLen) : Calls Try.prog 14 #[.string b] W fun e W' => DecPost W (decR b.data.toList) e W' ∧ Below W.heap.size W W' := by
  have h := decode_walk W b.data.toList (by rw [Array.length_toList]; exact hl)
  rw [str_nm] at h
  exact h
theorem decR_none {b : List UInt8} {n : Int} (h : decR b = (n, none)) : n = 2 ∨ n = 3 := by
  unfold decR at h
  split at h
  · exact .inl (Prod.mk.inj h).1.symm
  · cases hd : decA (b.length + 1) b [] [] with
    | none => rw [hd] at h; exact .inr (Prod.mk.inj h).1.symm
    | some l => rw [hd] at h; cases h
/-- Create, whatever comes of it. -/
theorem cr_any (W : World) (g b : Nat) (M : CatM) (h : IsCat (fun _ => True) W g b M) (t : Tb) (A : Option Addr) (ca : Nat) (B : Option Addr) (cb : Nat) (hA : kcol.C W A t.cols.length t.cols) (hca : t.cols.length ≤ ca) (hB : kix.C W B t.ixs.length t.ixs) (hcb : t.ixs.length ≤ cb) (hz : TSz t) :
    Calls Try.prog 9 #[.pointer (some ⟨g, 0, none⟩), .agg #[.string t.nm, .slice A t.cols.length ca, .int .i64 t.key, .slice B t.ixs.length cb]] W fun e w' => ∃ n M', e = .returned (.int .i64 n) ∧ Fr (fun k => k = b) W w' ∧ IsCat (fun _ => True) w' g b M' := by
  refine (create_walk _ W g b M h t A ca B cb hA hca hB hcb hz.nm hz.cnm hz.xnm hz.cl hz.il hz.xl).mono ?_
  rintro e w' ⟨he, hf, hq⟩
  split at hq
  · obtain ⟨v, hv⟩ := hq
    exact ⟨_, _, he, hf, hv.mono fun _ _ _ => trivial⟩
  · exact ⟨_, _, he, hf, hq⟩
/-- What a catalogue encodes, all of it. -/
theorem enc_dec {ok : Nat → Prop} {W : World} {g b : Nat} {M : CatM} (h : IsCat ok W g b M) (hb : ¬ 262144 < (encM M).length) : decR (str (encM M)).data.toList = (0, some (tbs M)) :=
  decR_there h.len_enc (tbs_sorted h.st h.named) (by unfold tbs; rw [List.length_map]; exact h.len) (by unfold encM at hb; omega)
theorem encR_of {M : CatM} {l : List Tb} {b : ByteArray} (h : tbs M = l) (hb : b.data.toList = flatE encT l) (hl : b.data.toList.length ≤ 262144) : encR M = (b, 0) := by
  unfold encR encM
  rw [h, ← hb, if_neg (by omega)]
theorem two_names (w : World) (ga ba gb bb : Nat) (Ma Mb : CatM) (h1 : IsCat (fun _ => True) w ga ba Ma) (h2 : IsCat (fun _ => True) w gb bb Mb) (h3 : tbs Ma = tbs Mb) :
    Calls Try.prog 13 #[.pointer (some ⟨ga, 0, none⟩)] w fun e w' => ∃ A c, e = .returned (.slice A (nameL Ma).length c) ∧ Below w.heap.size w w' ∧ (Calls Try.prog 13 #[.pointer (some ⟨gb, 0, none⟩)] w' fun e w2 => ∃ B d, e = .returned (.slice B (nameL Ma).length d) ∧ SAt w2 A (nameL Ma) ∧ SAt w2 B (nameL Ma) ∧ Below w.heap.size w w2) := by
  refine (names_walk _ w ga ba Ma h1).mono ?_
  rintro e w' ⟨v, rfl, hrow, hb⟩
  obtain ⟨A, c, rfl, -, hA⟩ := sAt_own hrow
  refine ⟨A, c, rfl, hb, (names_walk _ w' gb bb Mb (h2.below hb)).mono ?_⟩
  rintro e w2 ⟨v2, rfl, hrow2, hb2⟩
  have en : nameL Mb = nameL Ma := by rw [nameL_tbs h1.st h1.named, nameL_tbs h2.st h2.named, h3]
  rw [en] at hrow2
  obtain ⟨B, d, rfl, -, hB⟩ := sAt_own hrow2
  exact ⟨B, d, rfl, hA.below hb2, hB, step hb hb2⟩
theorem get_tb {ok : Nat → Prop} {W : World} {g b : Nat} {M : CatM} (h : IsCat ok W g b M) {t : Tb} (ht : t ∈ tbs M) : ∃ v, FM.get M t.nm.data.toList = some (v, t) := by
  obtain ⟨p, hp, rfl⟩ := mem_tbs.1 ht
  obtain ⟨i, hi, he⟩ := List.getElem_of_mem hp
  have hg := get_at h.st hi
  rw [he, h.named p hp] at hg
  exact ⟨p.2.1, hg⟩
theorem find_tb (W : World) (g b : Nat) (M : CatM) (h : IsCat (fun _ => True) W g b M) (t : Tb) (ht : t ∈ tbs M) :
    Calls Try.prog 17 #[.pointer (some ⟨g, 0, none⟩), .string t.nm] W fun e w' => ∃ A ca B cb, e = .returned (.tuple #[.agg #[.string t.nm, .slice A t.cols.length ca, .int .i64 t.key, .slice B t.ixs.length cb], .int .i64 0]) ∧ t.cols.length ≤ ca ∧ kcol.C w' A t.cols.length t.cols ∧ t.ixs.length ≤ cb ∧ kix.C w' B t.ixs.length t.ixs ∧ Below W.heap.size W w' := by
  obtain ⟨v, hv⟩ := get_tb h ht
  have hb := (chk_bounds (h.len_enc t ht)).1
  refine (find_walk _ W g b M h t.nm (by unfold maxLen; omega)).mono ?_
  rintro e w' ⟨hp, hb'⟩
  rw [hv] at hp
  obtain ⟨u, rfl, hO⟩ := hp
  obtain ⟨A, ca, B, cb, rfl, h1, h2, h3, h4⟩ := hO.reads
  exact ⟨A, ca, B, cb, rfl, h1, h2, h3, h4, hb'⟩
set_option maxRecDepth 100000 in
set_option maxHeartbeats 16000000 in
theorem back_walk (W : World) (A : Option Addr) (l : List Tb) (c : Nat) (b : ByteArray) (hA : ktb.C W A l.length l) (hc : l.length ≤ c) (hz : ∀ t ∈ l, TSz t) (hbl : b.size ≤ maxLen) :
    Calls Try.prog 5 #[.slice A l.length c, .string b] W fun e W' => e = .returned (.bool true) ∧ Below W.heap.size W W' := by
  have HA := Aside0.mk hA
  have HZ := Aside0.mk hz
  clear hA hz
  go_enter Try.func5, Try.ntmps5
  go_upto_region 5 with (first
    | (go_at_call 7; refine (new_walk W).mono ?_; rintro e w1 ⟨rfl, h1, hb1⟩; have H1 := Aside0.mk h1; have HB1 := Aside0.mk hb1; clear h1 hb1)
    | (go_at_call 8; refine (works_walk _).mono ?_; rintro e w2 ⟨rfl, hb2⟩; have H2 := Aside0.mk (H1.out.below hb2); have HB2 := Aside0.mk (step HB1.out hb2); clear hb2))
  clear H1 HB1
  generalize W.heap.size + 1 = g at *
  obtain ⟨bb, hbb⟩ : ∃ bb, W.heap.size = bb := ⟨_, rfl⟩
  have HC2 : Aside0 (IsCat (fun _ => True) w2 g bb []) := by rw [← hbb]; exact H2
  have HGe := Aside0.mk (show W.heap.size ≤ bb from Nat.le_of_eq hbb)
  clear hbb H2
  go_loopg [6] (l.length + 31) (fun kq v6 w' => ∃ (i : Nat) (M : CatM), v6 = .int .i64 (i : Int) ∧ Aside0 (i + kq = l.length + 31 ∧ i ≤ l.length ∧ i ≤ 30) ∧ Aside0 (IsCat (fun _ => True) w' g bb M) ∧ Aside0 (Below W.heap.size W w'))
  case atStart => exact ⟨0, [], rfl, ⟨by omega, Nat.zero_le _, by omega⟩, HC2, HB2⟩
  case round =>
    clear HC2 HB2
    obtain ⟨i, M, rfl, HJ, HC, HB⟩ := hrel
    by_cases hi : i < l.length ∧ i < 30
    · obtain ⟨kq1, rfl⟩ : ∃ kq1, gk = kq1 + 1 := ⟨gk - 1, by have := HJ.out; omega⟩
      obtain ⟨hi1, hi2⟩ := hi
      have hj1 : (i : Int) < (l.length : Int) := by omega
      have hj2 : (i : Int) < 30 := by omega
      obtain ⟨ad, B, cb, D, cd, rfl, x0, x1, x2, x3, q1, q2, q3, q4⟩ := tb_at (Kd.C_below HA.out HB.out) i hi1
      have hzi := HZ.out _ (List.getElem_mem hi1)
      obtain ⟨t, ht⟩ : ∃ t, l[i] = t := ⟨_, rfl⟩
      rw [ht] at x0 x1 x2 x3 q1 q2 q3 q4 hzi
      have y1 := far_cell x1
      have y2 := far_cell x2
      have y3 := far_cell x3
      have HC1 := Aside0.mk q2
      have HC2 := Aside0.mk q4
      have HQ := Aside0.mk (show t.cols.length ≤ cb ∧ t.ixs.length ≤ cd from ⟨q1, q3⟩)
      have HZt := Aside0.mk hzi
      have HI1 := Aside0.mk hi1
      clear q1 q2 q3 q4 hzi ht hi1
      go_wp2_with (go_at_call 9; refine (cr_any wr g bb M HC.out t B cb D cd HC1.out HQ.out.1 HC2.out HQ.out.2 HZt.out).mono ?_; rintro e w3 ⟨n, M3, rfl, hf3, hc3⟩; have HC3 := Aside0.mk hc3; have HB3 := Aside0.mk (hf3.below HB.out fun k hk => by subst hk; exact HGe.out); clear hf3 hc3)
      go_roundg kq1
      case measure => have := HJ.out; omega
      case rel => exact ⟨i + 1, M3, by go_num, ⟨by have := HJ.out; omega, by have := HI1.out; omega, by omega⟩, HC3, HB3⟩
    · have hex : l.length ≤ i ∨ (i < l.length ∧ 30 ≤ i) := by omega
      clear HJ hi
      rcases hex with hex | ⟨hex, hex2⟩
      · have hj : ¬ (i : Int) < (l.length : Int) := by omega
        go_upto_region 8 with fail
        clear hj hex
        go_upto_region 9 with (go_at_call 11; refine (encode_walk _ wr g bb M HC.out).mono ?_; obtain ⟨re, hre⟩ : ∃ r, encR M = r := ⟨_, rfl⟩; rw [hre]; have HRe := Aside0.mk hre; rintro e w4 ⟨rfl, hb4⟩; have HC4 := Aside0.mk (HC.out.below hb4); have HB4 := Aside0.mk (step HB.out hb4); clear hb4 hre)
        clear HC HB
        by_cases hbig : 262144 < (encM M).length
        · obtain rfl : re = (⟨#[]⟩, 2) := by rw [← HRe.out]; unfold encR; rw [if_pos hbig]
          have HBt := HB4
          clear hbig HC4 HB4
          simp only
          obtain ⟨⟨rn, ro⟩, hro⟩ : ∃ r, decR b.data.toList = r := ⟨_, rfl⟩
          have HRo := Aside0.mk hro
          cases ro with
          | none =>
            have hrn := decR_none hro
            have hrn0 : ¬ rn = 0 := by omega
            clear hro
            go_wp2_with (go_at_call 14; refine (dec_walk _ b hbl).mono ?_; rw [HRo.out]; rintro e wd ⟨rfl, hbd⟩; have HBd := Aside0.mk (step HBt.out hbd); clear hbd)
            go_ret
            exact ⟨rfl, HBd.out.alloc HBd.out.size _⟩
          | some lo =>
            obtain ⟨hrn, hbe, hble⟩ := decR_back hro
            obtain rfl := hrn
            clear hro
            have HBe := Aside0.mk hbe
            have HBle := Aside0.mk hble
            clear hbe hble
            go_wp2_with (first
              | (go_at_call 14; refine (dec_walk _ b hbl).mono ?_; rw [HRo.out]; rintro e wd ⟨⟨gd, bd, Md, rfl, hcd, htd, -, -⟩, hbd⟩; have HBd := Aside0.mk (step HBt.out hbd); have HCd := Aside0.mk hcd; have HTd := Aside0.mk htd; clear hbd hcd htd)
              | (go_at_call 11; refine (encode_walk _ _ gd bd Md (HCd.out.below (below_alloc (Below.refl _ _) _))).mono ?_; rw [encR_of HTd.out HBe.out HBle.out]; rintro e we ⟨rfl, hbe⟩; have HBf := Aside0.mk (step (step HBd.out (below_alloc (Below.refl _ _) _)) hbe); clear hbe))
            go_ret
            exact ⟨rfl, HBf.out⟩
        · obtain rfl : re = (str (encM M), 0) := by rw [← HRe.out]; unfold encR; rw [if_neg hbig]; rfl
          have HDe := Aside0.mk (enc_dec HC4.out hbig)
          have hsl : (str (encM M)).size ≤ maxLen := by rw [str_size]; unfold maxLen; omega
          clear hbig
          simp only
          go_upto_region 11 with (go_at_call 14; refine (dec_walk _ _ hsl).mono ?_; rw [HDe.out]; rintro e w5 ⟨⟨g2, b2, M2, rfl, hc2, ht2, -, -⟩, hb5⟩; have HC5 := Aside0.mk ((HC4.out.below hb5).below (below_alloc (Below.refl w5.heap.size w5) (.cells #[.int .i64 0, .int .i64 0] 43))); have HD5 := Aside0.mk (hc2.below (below_alloc (Below.refl w5.heap.size w5) (.cells #[.int .i64 0, .int .i64 0] 43))); have HT5 := Aside0.mk ht2; have HB5 := Aside0.mk (step (step HB4.out hb5) (below_alloc (Below.refl w5.heap.size w5) (.cells #[.int .i64 0, .int .i64 0] 43))); clear hb5 hc2 ht2)
          have HN := Aside0.mk (two_names _ g bb g2 b2 M M2 HC5.out HD5.out HT5.out.symm)
          go_upto_region 13 with (first
            | (go_at_call 12; refine HTx.out.mono ?_; rintro e w9 ⟨rfl, hb9⟩; have HC9 := Aside0.mk (HC5.out.below (step HB8.out hb9)); have HD9 := Aside0.mk (HD5.out.below (step HB8.out hb9)); have HB9 := Aside0.mk (step HB5.out (step HB8.out hb9)); clear hb9)
            | (go_at_call 13; refine HN2.out.mono ?_; rintro e w8 ⟨B1, d1, rfl, ha8, hb8, hw8⟩; have HTx := Aside0.mk (sameT_walk w8 A1 B1 _ c1 d1 ha8 hb8); have HB8 := Aside0.mk hw8; clear ha8 hb8 hw8)
            | (go_at_call 13; refine HN.out.mono ?_; rintro e w7 ⟨A1, c1, rfl, -, hN2⟩; have HN2 := Aside0.mk hN2; clear hN2))
          clear HC5 HD5 HB5 HN HN2 HTx HB8
          go_upto_region 14 with (go_at_call 13; refine (names_walk _ _ g bb M HC9.out).mono ?_; rintro e w10 ⟨v, rfl, hrow, hb10⟩; obtain ⟨A2, c2, rfl, -, hs10⟩ := sAt_own hrow; have HS10 := Aside0.mk hs10; have HCa := Aside0.mk (HC9.out.below hb10); have HDa := Aside0.mk (HD9.out.below hb10); have HBa := Aside0.mk (step HB9.out hb10); clear hrow hb10 hs10)
          clear HC9 HD9 HB9
          obtain ⟨ln, hln⟩ : ∃ ln, nameL M = ln := ⟨_, rfl⟩
          rw [hln] at HS10 ⊢
          have HLn := Aside0.mk (show ln = (tbs M).map (·.nm) from by rw [← hln]; exact nameL_tbs HCa.out.st HCa.out.named)
          have hlnl : ln.length ≤ 4096 := by rw [HLn.out, List.length_map]; unfold tbs; rw [List.length_map]; exact HCa.out.len
          clear hln
          go_loopg [72] (ln.length + 1) (fun kq v72 w' => ∃ k : Nat, v72 = .int .i64 (k : Int) ∧ Aside0 (k + kq = ln.length + 1 ∧ k ≤ ln.length) ∧ Aside0 (Below w10.heap.size w10 w'))
          case atStart => exact ⟨0, rfl, ⟨by omega, Nat.zero_le _⟩, ⟨Below.refl _ _⟩⟩
          case round =>
            obtain ⟨k, rfl, HK, HBw⟩ := hrel
            by_cases hk : k < ln.length
            · obtain ⟨kq1, rfl⟩ : ∃ kq1, gk = kq1 + 1 := ⟨gk - 1, by have := HK.out; omega⟩
              have hkk : (k : Int) < (ln.length : Int) := by omega
              obtain ⟨ad, rfl, x0⟩ := (HS10.out.below HBw.out).2 k hk
              have hkl : k < (tbs M).length := by rw [HLn.out, List.length_map] at hk; exact hk
              obtain ⟨t, ht⟩ : ∃ t, (tbs M)[k] = t := ⟨_, rfl⟩
              have htm : t ∈ tbs M := by rw [← ht]; exact List.getElem_mem hkl
              have hnm : ln[k] = t.nm := by simp only [HLn.out, List.getElem_map, ht]
              rw [hnm] at x0
              have htm2 : t ∈ tbs M2 := by rw [HT5.out]; exact htm
              have hck := HCa.out.len_enc t htm
              obtain ⟨s1, s2⟩ := chk_small hck
              have HF1 := Aside0.mk (find_tb _ g bb M (HCa.out.below HBw.out) t htm)
              have HDw := Aside0.mk (HDa.out.below HBw.out)
              have HTm2 := Aside0.mk htm2
              have HCk := Aside0.mk hck
              have HSm := Aside0.mk s1
              have HKl := Aside0.mk hk
              clear hkl ht htm hnm htm2 hck s1 s2 hk
              go_upto_region 18 with (first
                | (go_at_call 17; refine (find_tb _ g2 b2 M2 HD6.out t HTm2.out).mono ?_; rintro e w7 ⟨A4, ca4, B4, cb4, rfl, h1, h2, h3, h4, hb7⟩; have HP2 := Aside0.mk (show kcol.C w7 A4 t.cols.length t.cols ∧ kix.C w7 B4 t.ixs.length t.ixs from ⟨h2, h4⟩); have HB7 := Aside0.mk hb7; clear h1 h2 h3 h4 hb7)
                | (go_at_call 17; refine HF1.out.mono ?_; rintro e w6 ⟨A3, ca3, B3, cb3, rfl, h1, h2, h3, h4, hb6⟩; have HP1 := Aside0.mk (show kcol.C w6 A3 t.cols.length t.cols ∧ kix.C w6 B3 t.ixs.length t.ixs ∧ t.cols.length ≤ ca3 ∧ t.ixs.length ≤ cb3 from ⟨h2, h4, h1, h3⟩); have HB6 := Aside0.mk hb6; have HD6 := Aside0.mk ((HDw.out.below hb6).below (below_alloc (Below.refl w6.heap.size w6) (.cells #[.string t.nm, .slice A3 t.cols.length ca3, .int .i64 t.key, .slice B3 t.ixs.length cb3] 30))); clear h1 h2 h3 h4 hb6))
              have hx1 := tbBox_made w6 (.string t.nm) (.slice A3 t.cols.length ca3) (.int .i64 t.key) (.slice B3 t.ixs.length cb3) 30
              have hal6 := below_alloc (Below.refl w6.heap.size w6) (.cells #[.string t.nm, .slice A3 t.cols.length ca3, .int .i64 t.key, .slice B3 t.ixs.length cb3] 30)
              have hal7 := below_alloc (Below.refl w7.heap.size w7) (.cells #[.string t.nm, .slice A4 t.cols.length ca4, .int .i64 t.key, .slice B4 t.ixs.length cb4] 30)
              have hb68 := step HB7.out hal7
              have HX1 := Aside0.mk ((hx1.keep HB7.out hx1.lt).keep hal7 (Nat.lt_of_lt_of_le hx1.lt HB7.out.size))
              have HX2 := Aside0.mk (tbBox_made w7 (.string t.nm) (.slice A4 t.cols.length ca4) (.int .i64 t.key) (.slice B4 t.ixs.length cb4) 30)
              have HPa := Aside0.mk (Kd.C_below (Kd.C_below HP1.out.1 hal6) hb68)
              have HPb := Aside0.mk (Kd.C_below (Kd.C_below HP1.out.2.1 hal6) hb68)
              have HPc := Aside0.mk (Kd.C_below HP2.out.1 hal7)
              have HPd := Aside0.mk (Kd.C_below HP2.out.2 hal7)
              have HB8 := Aside0.mk (step (step (step HBw.out HB6.out) hal6) hb68)
              have HP3 := Aside0.mk HP1.out.2.2
              clear hx1 hal6 hal7 hb68 HP1 HP2 HB7 HB6 HD6 HF1 HDw x0
              generalize w7.alloc (.cells #[.string t.nm, .slice A4 t.cols.length ca4, .int .i64 t.key, .slice B4 t.ixs.length cb4] 30) = w8' at *
              generalize w6.heap.size = p1 at *
              generalize w7.heap.size = p2 at *
              have r0 := HX1.out.c0
              have r1 := HX1.out.c1
              have r2 := HX1.out.c2
              have r3 := HX1.out.c3
              have q0 := HX2.out.c0
              have q1 := HX2.out.c1
              have q2 := HX2.out.c2
              have q3 := HX2.out.c3
              go_wp2_with (first
                | (go_at_call 18; refine (sameTb_walk w8' t A3 ca3 B3 cb3 A4 ca4 B4 cb4 HPa.out HPb.out HPc.out HPd.out (Nat.le_trans HSm.out.cl (by decide)) (Nat.le_trans HSm.out.il (by decide)) (fun x hx => Nat.le_trans (HSm.out.ixs x hx).2.1 (by decide))).mono ?_; rintro e w9' ⟨rfl, hb9⟩; have hx9 := HX1.out.keep hb9 HX1.out.lt; have u0 := hx9.c0; have u1 := hx9.c1; have u2 := hx9.c2; have u3 := hx9.c3; have HX9 := Aside0.mk hx9; have HPe := Aside0.mk (Kd.C_below HPa.out hb9); have HPf := Aside0.mk (Kd.C_below HPb.out hb9); have HB9 := Aside0.mk (step HB8.out hb9); clear hx9 hb9)
                | (go_at_call 19; refine (chk_walk w9' t A3 ca3 B3 cb3 HPe.out HP3.out.1 HPf.out HP3.out.2 (Nat.le_trans HSm.out.nm (by decide)) (fun x hx => Nat.le_trans (HSm.out.cols x hx).1 (by decide)) (fun x hx => Nat.le_trans (HSm.out.ixs x hx).1 (by decide)) (Nat.le_trans HSm.out.cl (by decide)) (Nat.le_trans HSm.out.il (by decide)) (fun x hx => Nat.le_trans (HSm.out.ixs x hx).2.1 (by decide))).mono ?_; rw [HCk.out]; rintro e w10' ⟨rfl, hb10⟩; have hx10 := HX9.out.keep hb10 HX9.out.lt; have v0 := hx10.c0; have HBz := Aside0.mk (step HB9.out hb10); clear hx10 hb10))
              go_roundg kq1
              case measure => have := HK.out; omega
              case rel => exact ⟨k + 1, by go_num, ⟨by have := HK.out; omega, by have := HKl.out; omega⟩, HBz⟩
            · have hkk : ¬ (k : Int) < (ln.length : Int) := by omega
              have HBt := Aside0.mk (step HBa.out HBw.out)
              clear hk
              obtain ⟨⟨rn, ro⟩, hro⟩ : ∃ r, decR b.data.toList = r := ⟨_, rfl⟩
              have HRo := Aside0.mk hro
              cases ro with
              | none =>
                have hrn := decR_none hro
                have hrn0 : ¬ rn = 0 := by omega
                clear hro
                go_wp2_with (go_at_call 14; refine (dec_walk _ b hbl).mono ?_; rw [HRo.out]; rintro e wd ⟨rfl, hbd⟩; have HBd := Aside0.mk (step HBt.out hbd); clear hbd)
                go_ret
                exact ⟨rfl, HBd.out.alloc HBd.out.size _⟩
              | some lo =>
                obtain ⟨hrn, hbe, hble⟩ := decR_back hro
                obtain rfl := hrn
                clear hro
                have HBe := Aside0.mk hbe
                have HBle := Aside0.mk hble
                clear hbe hble
                go_wp2_with (first
                  | (go_at_call 14; refine (dec_walk _ b hbl).mono ?_; rw [HRo.out]; rintro e wd ⟨⟨gd, bd, Md, rfl, hcd, htd, -, -⟩, hbd⟩; have HBd := Aside0.mk (step HBt.out hbd); have HCd := Aside0.mk hcd; have HTd := Aside0.mk htd; clear hbd hcd htd)
                  | (go_at_call 11; refine (encode_walk _ _ gd bd Md (HCd.out.below (below_alloc (Below.refl _ _) _))).mono ?_; rw [encR_of HTd.out HBe.out HBle.out]; rintro e we ⟨rfl, hbe⟩; have HBf := Aside0.mk (step (step HBd.out (below_alloc (Below.refl _ _) _)) hbe); clear hbe))
                go_ret
                exact ⟨rfl, HBf.out⟩
      · have hj : (i : Int) < (l.length : Int) := by omega
        have hj2 : ¬ (i : Int) < 30 := by omega
        go_upto_region 8 with fail
        clear hj hj2 hex hex2
        go_upto_region 9 with (go_at_call 11; refine (encode_walk _ wr g bb M HC.out).mono ?_; obtain ⟨re, hre⟩ : ∃ r, encR M = r := ⟨_, rfl⟩; rw [hre]; have HRe := Aside0.mk hre; rintro e w4 ⟨rfl, hb4⟩; have HC4 := Aside0.mk (HC.out.below hb4); have HB4 := Aside0.mk (step HB.out hb4); clear hb4 hre)
        clear HC HB
        by_cases hbig : 262144 < (encM M).length
        · obtain rfl : re = (⟨#[]⟩, 2) := by rw [← HRe.out]; unfold encR; rw [if_pos hbig]
          have HBt := HB4
          clear hbig HC4 HB4
          simp only
          obtain ⟨⟨rn, ro⟩, hro⟩ : ∃ r, decR b.data.toList = r := ⟨_, rfl⟩
          have HRo := Aside0.mk hro
          cases ro with
          | none =>
            have hrn := decR_none hro
            have hrn0 : ¬ rn = 0 := by omega
            clear hro
            go_wp2_with (go_at_call 14; refine (dec_walk _ b hbl).mono ?_; rw [HRo.out]; rintro e wd ⟨rfl, hbd⟩; have HBd := Aside0.mk (step HBt.out hbd); clear hbd)
            go_ret
            exact ⟨rfl, HBd.out.alloc HBd.out.size _⟩
          | some lo =>
            obtain ⟨hrn, hbe, hble⟩ := decR_back hro
            obtain rfl := hrn
            clear hro
            have HBe := Aside0.mk hbe
            have HBle := Aside0.mk hble
            clear hbe hble
            go_wp2_with (first
              | (go_at_call 14; refine (dec_walk _ b hbl).mono ?_; rw [HRo.out]; rintro e wd ⟨⟨gd, bd, Md, rfl, hcd, htd, -, -⟩, hbd⟩; have HBd := Aside0.mk (step HBt.out hbd); have HCd := Aside0.mk hcd; have HTd := Aside0.mk htd; clear hbd hcd htd)
              | (go_at_call 11; refine (encode_walk _ _ gd bd Md (HCd.out.below (below_alloc (Below.refl _ _) _))).mono ?_; rw [encR_of HTd.out HBe.out HBle.out]; rintro e we ⟨rfl, hbe⟩; have HBf := Aside0.mk (step (step HBd.out (below_alloc (Below.refl _ _) _)) hbe); clear hbe))
            go_ret
            exact ⟨rfl, HBf.out⟩
        · obtain rfl : re = (str (encM M), 0) := by rw [← HRe.out]; unfold encR; rw [if_neg hbig]; rfl
          have HDe := Aside0.mk (enc_dec HC4.out hbig)
          have hsl : (str (encM M)).size ≤ maxLen := by rw [str_size]; unfold maxLen; omega
          clear hbig
          simp only
          go_upto_region 11 with (go_at_call 14; refine (dec_walk _ _ hsl).mono ?_; rw [HDe.out]; rintro e w5 ⟨⟨g2, b2, M2, rfl, hc2, ht2, -, -⟩, hb5⟩; have HC5 := Aside0.mk ((HC4.out.below hb5).below (below_alloc (Below.refl w5.heap.size w5) (.cells #[.int .i64 0, .int .i64 0] 43))); have HD5 := Aside0.mk (hc2.below (below_alloc (Below.refl w5.heap.size w5) (.cells #[.int .i64 0, .int .i64 0] 43))); have HT5 := Aside0.mk ht2; have HB5 := Aside0.mk (step (step HB4.out hb5) (below_alloc (Below.refl w5.heap.size w5) (.cells #[.int .i64 0, .int .i64 0] 43))); clear hb5 hc2 ht2)
          have HN := Aside0.mk (two_names _ g bb g2 b2 M M2 HC5.out HD5.out HT5.out.symm)
          go_upto_region 13 with (first
            | (go_at_call 12; refine HTx.out.mono ?_; rintro e w9 ⟨rfl, hb9⟩; have HC9 := Aside0.mk (HC5.out.below (step HB8.out hb9)); have HD9 := Aside0.mk (HD5.out.below (step HB8.out hb9)); have HB9 := Aside0.mk (step HB5.out (step HB8.out hb9)); clear hb9)
            | (go_at_call 13; refine HN2.out.mono ?_; rintro e w8 ⟨B1, d1, rfl, ha8, hb8, hw8⟩; have HTx := Aside0.mk (sameT_walk w8 A1 B1 _ c1 d1 ha8 hb8); have HB8 := Aside0.mk hw8; clear ha8 hb8 hw8)
            | (go_at_call 13; refine HN.out.mono ?_; rintro e w7 ⟨A1, c1, rfl, -, hN2⟩; have HN2 := Aside0.mk hN2; clear hN2))
          clear HC5 HD5 HB5 HN HN2 HTx HB8
          go_upto_region 14 with (go_at_call 13; refine (names_walk _ _ g bb M HC9.out).mono ?_; rintro e w10 ⟨v, rfl, hrow, hb10⟩; obtain ⟨A2, c2, rfl, -, hs10⟩ := sAt_own hrow; have HS10 := Aside0.mk hs10; have HCa := Aside0.mk (HC9.out.below hb10); have HDa := Aside0.mk (HD9.out.below hb10); have HBa := Aside0.mk (step HB9.out hb10); clear hrow hb10 hs10)
          clear HC9 HD9 HB9
          obtain ⟨ln, hln⟩ : ∃ ln, nameL M = ln := ⟨_, rfl⟩
          rw [hln] at HS10 ⊢
          have HLn := Aside0.mk (show ln = (tbs M).map (·.nm) from by rw [← hln]; exact nameL_tbs HCa.out.st HCa.out.named)
          have hlnl : ln.length ≤ 4096 := by rw [HLn.out, List.length_map]; unfold tbs; rw [List.length_map]; exact HCa.out.len
          clear hln
          go_loopg [72] (ln.length + 1) (fun kq v72 w' => ∃ k : Nat, v72 = .int .i64 (k : Int) ∧ Aside0 (k + kq = ln.length + 1 ∧ k ≤ ln.length) ∧ Aside0 (Below w10.heap.size w10 w'))
          case atStart => exact ⟨0, rfl, ⟨by omega, Nat.zero_le _⟩, ⟨Below.refl _ _⟩⟩
          case round =>
            obtain ⟨k, rfl, HK, HBw⟩ := hrel
            by_cases hk : k < ln.length
            · obtain ⟨kq1, rfl⟩ : ∃ kq1, gk = kq1 + 1 := ⟨gk - 1, by have := HK.out; omega⟩
              have hkk : (k : Int) < (ln.length : Int) := by omega
              obtain ⟨ad, rfl, x0⟩ := (HS10.out.below HBw.out).2 k hk
              have hkl : k < (tbs M).length := by rw [HLn.out, List.length_map] at hk; exact hk
              obtain ⟨t, ht⟩ : ∃ t, (tbs M)[k] = t := ⟨_, rfl⟩
              have htm : t ∈ tbs M := by rw [← ht]; exact List.getElem_mem hkl
              have hnm : ln[k] = t.nm := by simp only [HLn.out, List.getElem_map, ht]
              rw [hnm] at x0
              have htm2 : t ∈ tbs M2 := by rw [HT5.out]; exact htm
              have hck := HCa.out.len_enc t htm
              obtain ⟨s1, s2⟩ := chk_small hck
              have HF1 := Aside0.mk (find_tb _ g bb M (HCa.out.below HBw.out) t htm)
              have HDw := Aside0.mk (HDa.out.below HBw.out)
              have HTm2 := Aside0.mk htm2
              have HCk := Aside0.mk hck
              have HSm := Aside0.mk s1
              have HKl := Aside0.mk hk
              clear hkl ht htm hnm htm2 hck s1 s2 hk
              go_upto_region 18 with (first
                | (go_at_call 17; refine (find_tb _ g2 b2 M2 HD6.out t HTm2.out).mono ?_; rintro e w7 ⟨A4, ca4, B4, cb4, rfl, h1, h2, h3, h4, hb7⟩; have HP2 := Aside0.mk (show kcol.C w7 A4 t.cols.length t.cols ∧ kix.C w7 B4 t.ixs.length t.ixs from ⟨h2, h4⟩); have HB7 := Aside0.mk hb7; clear h1 h2 h3 h4 hb7)
                | (go_at_call 17; refine HF1.out.mono ?_; rintro e w6 ⟨A3, ca3, B3, cb3, rfl, h1, h2, h3, h4, hb6⟩; have HP1 := Aside0.mk (show kcol.C w6 A3 t.cols.length t.cols ∧ kix.C w6 B3 t.ixs.length t.ixs ∧ t.cols.length ≤ ca3 ∧ t.ixs.length ≤ cb3 from ⟨h2, h4, h1, h3⟩); have HB6 := Aside0.mk hb6; have HD6 := Aside0.mk ((HDw.out.below hb6).below (below_alloc (Below.refl w6.heap.size w6) (.cells #[.string t.nm, .slice A3 t.cols.length ca3, .int .i64 t.key, .slice B3 t.ixs.length cb3] 30))); clear h1 h2 h3 h4 hb6))
              have hx1 := tbBox_made w6 (.string t.nm) (.slice A3 t.cols.length ca3) (.int .i64 t.key) (.slice B3 t.ixs.length cb3) 30
              have hal6 := below_alloc (Below.refl w6.heap.size w6) (.cells #[.string t.nm, .slice A3 t.cols.length ca3, .int .i64 t.key, .slice B3 t.ixs.length cb3] 30)
              have hal7 := below_alloc (Below.refl w7.heap.size w7) (.cells #[.string t.nm, .slice A4 t.cols.length ca4, .int .i64 t.key, .slice B4 t.ixs.length cb4] 30)
              have hb68 := step HB7.out hal7
              have HX1 := Aside0.mk ((hx1.keep HB7.out hx1.lt).keep hal7 (Nat.lt_of_lt_of_le hx1.lt HB7.out.size))
              have HX2 := Aside0.mk (tbBox_made w7 (.string t.nm) (.slice A4 t.cols.length ca4) (.int .i64 t.key) (.slice B4 t.ixs.length cb4) 30)
              have HPa := Aside0.mk (Kd.C_below (Kd.C_below HP1.out.1 hal6) hb68)
              have HPb := Aside0.mk (Kd.C_below (Kd.C_below HP1.out.2.1 hal6) hb68)
              have HPc := Aside0.mk (Kd.C_below HP2.out.1 hal7)
              have HPd := Aside0.mk (Kd.C_below HP2.out.2 hal7)
              have HB8 := Aside0.mk (step (step (step HBw.out HB6.out) hal6) hb68)
              have HP3 := Aside0.mk HP1.out.2.2
              clear hx1 hal6 hal7 hb68 HP1 HP2 HB7 HB6 HD6 HF1 HDw x0
              generalize w7.alloc (.cells #[.string t.nm, .slice A4 t.cols.length ca4, .int .i64 t.key, .slice B4 t.ixs.length cb4] 30) = w8' at *
              generalize w6.heap.size = p1 at *
              generalize w7.heap.size = p2 at *
              have r0 := HX1.out.c0
              have r1 := HX1.out.c1
              have r2 := HX1.out.c2
              have r3 := HX1.out.c3
              have q0 := HX2.out.c0
              have q1 := HX2.out.c1
              have q2 := HX2.out.c2
              have q3 := HX2.out.c3
              go_wp2_with (first
                | (go_at_call 18; refine (sameTb_walk w8' t A3 ca3 B3 cb3 A4 ca4 B4 cb4 HPa.out HPb.out HPc.out HPd.out (Nat.le_trans HSm.out.cl (by decide)) (Nat.le_trans HSm.out.il (by decide)) (fun x hx => Nat.le_trans (HSm.out.ixs x hx).2.1 (by decide))).mono ?_; rintro e w9' ⟨rfl, hb9⟩; have hx9 := HX1.out.keep hb9 HX1.out.lt; have u0 := hx9.c0; have u1 := hx9.c1; have u2 := hx9.c2; have u3 := hx9.c3; have HX9 := Aside0.mk hx9; have HPe := Aside0.mk (Kd.C_below HPa.out hb9); have HPf := Aside0.mk (Kd.C_below HPb.out hb9); have HB9 := Aside0.mk (step HB8.out hb9); clear hx9 hb9)
                | (go_at_call 19; refine (chk_walk w9' t A3 ca3 B3 cb3 HPe.out HP3.out.1 HPf.out HP3.out.2 (Nat.le_trans HSm.out.nm (by decide)) (fun x hx => Nat.le_trans (HSm.out.cols x hx).1 (by decide)) (fun x hx => Nat.le_trans (HSm.out.ixs x hx).1 (by decide)) (Nat.le_trans HSm.out.cl (by decide)) (Nat.le_trans HSm.out.il (by decide)) (fun x hx => Nat.le_trans (HSm.out.ixs x hx).2.1 (by decide))).mono ?_; rw [HCk.out]; rintro e w10' ⟨rfl, hb10⟩; have hx10 := HX9.out.keep hb10 HX9.out.lt; have v0 := hx10.c0; have HBz := Aside0.mk (step HB9.out hb10); clear hx10 hb10))
              go_roundg kq1
              case measure => have := HK.out; omega
              case rel => exact ⟨k + 1, by go_num, ⟨by have := HK.out; omega, by have := HKl.out; omega⟩, HBz⟩
            · have hkk : ¬ (k : Int) < (ln.length : Int) := by omega
              have HBt := Aside0.mk (step HBa.out HBw.out)
              clear hk
              obtain ⟨⟨rn, ro⟩, hro⟩ : ∃ r, decR b.data.toList = r := ⟨_, rfl⟩
              have HRo := Aside0.mk hro
              cases ro with
              | none =>
                have hrn := decR_none hro
                have hrn0 : ¬ rn = 0 := by omega
                clear hro
                go_wp2_with (go_at_call 14; refine (dec_walk _ b hbl).mono ?_; rw [HRo.out]; rintro e wd ⟨rfl, hbd⟩; have HBd := Aside0.mk (step HBt.out hbd); clear hbd)
                go_ret
                exact ⟨rfl, HBd.out.alloc HBd.out.size _⟩
              | some lo =>
                obtain ⟨hrn, hbe, hble⟩ := decR_back hro
                obtain rfl := hrn
                clear hro
                have HBe := Aside0.mk hbe
                have HBle := Aside0.mk hble
                clear hbe hble
                go_wp2_with (first
                  | (go_at_call 14; refine (dec_walk _ b hbl).mono ?_; rw [HRo.out]; rintro e wd ⟨⟨gd, bd, Md, rfl, hcd, htd, -, -⟩, hbd⟩; have HBd := Aside0.mk (step HBt.out hbd); have HCd := Aside0.mk hcd; have HTd := Aside0.mk htd; clear hbd hcd htd)
                  | (go_at_call 11; refine (encode_walk _ _ gd bd Md (HCd.out.below (below_alloc (Below.refl _ _) _))).mono ?_; rw [encR_of HTd.out HBe.out HBle.out]; rintro e we ⟨rfl, hbe⟩; have HBf := Aside0.mk (step (step HBd.out (below_alloc (Below.refl _ _) _)) hbe); clear hbe))
                go_ret
                exact ⟨rfl, HBf.out⟩
end Go.Proofs.Ytjehbnhjaogfkaa.Sc
