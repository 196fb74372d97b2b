import Derived.Test.YtjkllbilfcopmaaDk16
namespace Go.Proofs.Ytjkllbilfcopmaa.Dk
open Go.RowKit Go.Proofs.YtjkllbilfcopmaaW.PrintWords Go.Proofs.YtjkllbilfcopmaaW.PrintLast Go.Proofs.YtjkllbilfcopmaaW.PrintMore
set_option linter.unusedVariables false
set_option linter.unusedSimpArgs false
theorem add_far (x : Addr) (k : Nat) (h : 0 < k) : x.add k = ⟨x.block, x.off + k, none⟩ := by
  have : k ≠ 0 := by omega
  simp [Addr.add, this]
/-- A call of a disk, as it came in. -/
structure Act5 where
  kd : Int
  nm : ByteArray
  dt : ByteArray
  n : Int
  da : Option Addr
  dl : Nat
  dc : Nat
  dz : List Int
def RowP (W : World) (a : Option Addr) (len cap : Nat) (zs : List Int) : Prop := (a = none ∧ len = 0 ∧ cap = 0 ∧ zs = []) ∨
    ∃ x, a = some x ∧ len ≤ cap ∧ cap ≤ maxLen ∧ zs.length = cap ∧ (∀ i, i < zs.length → W.cell? (x.add i) = some (.int .i64 (zs.getD i 0))) ∧ ∀ n ∈ zs, (Lit.int .i64 n).wf = true
structure ActOk (W : World) (x : Act5) : Prop where
  kd : (Lit.int .i64 x.kd).wf = true
  nm : x.nm.size ≤ 140737488351232
  dt : x.dt.size ≤ 140737488351232
  n : (Lit.int .i64 x.n).wf = true
  d : RowP W x.da x.dl x.dc x.dz
/-- A slice of calls that came in. -/
def ActsAt (W : World) (A : Option Addr) (acts : List Act5) : Prop := acts.length ≤ maxLen ∧ ∀ i (h : i < acts.length), ActOk W acts[i] ∧ ∃ ad, A = some ad ∧ ad.block < W.heap.size ∧
  W.cell? (ad.add (i * 5)) = some (.int .i64 acts[i].kd) ∧ W.cell? (ad.add (i * 5 + 1)) = some (.string acts[i].nm) ∧ W.cell? (ad.add (i * 5 + 2)) = some (.string acts[i].dt) ∧ W.cell? (ad.add (i * 5 + 3)) = some (.int .i64 acts[i].n) ∧ W.cell? (ad.add (i * 5 + 4)) = some (.slice acts[i].da acts[i].dl acts[i].dc)
theorem row_move {W W1 : World} {a : Option Addr} {len cap : Nat} {zs : List Int} (h : RowP W a len cap zs) (hb : Below W.heap.size W W1) : RowP W1 a len cap zs := by
  rcases h with h | ⟨x, h0, h1, h2, h3, h4, h5⟩
  · exact .inl h
  · refine .inr ⟨x, h0, h1, h2, h3, fun i hi => ?_, h5⟩
    have hlt := World.block_lt_of_cell? W _ (h4 i hi)
    rw [World.cell?_of_block (hb.block _ hlt)]
    exact h4 i hi
theorem ActsAt.move {W W1 : World} {A : Option Addr} {acts : List Act5} (h : ActsAt W A acts) (hb : Below W.heap.size W W1) : ActsAt W1 A acts := by
  refine ⟨h.1, fun i hi => ?_⟩
  obtain ⟨ho, ad, e, hl, h0, h1, h2, h3, h4⟩ := h.2 i hi
  have hm : ∀ j, W1.cell? (ad.add j) = W.cell? (ad.add j) := fun j => World.cell?_of_block (by rw [add_block']; exact hb.block _ hl)
  exact ⟨⟨ho.kd, ho.nm, ho.dt, ho.n, row_move ho.d hb⟩, ad, e, Nat.lt_of_lt_of_le hl hb.size, by rw [hm]; exact h0, by rw [hm]; exact h1, by rw [hm]; exact h2, by rw [hm]; exact h3, by rw [hm]; exact h4⟩
theorem allL_m {d e : DS} (h : d.m = e.m) : allL d = allL e := by
  obtain ⟨m, a, b, c⟩ := d
  obtain ⟨m', a', b', c'⟩ := e
  obtain rfl : m = m' := h
  rfl
set_option maxRecDepth 100000 in
set_option maxHeartbeats 8000000 in
theorem twice_walk (A : Option Addr) (acts : List Act5) (c : Nat) (A1 : Option Addr) (d1 : List Int) (c1 : Nat) (A2 : Option Addr) (d2 : List Int) (c2 : Nat) (W : World) (hA : ActsAt W A acts) (hc : acts.length ≤ c)
    (h1 : (∀ S : Nat → Prop, (∀ k, S k → W.heap.size ≤ k) → IntsAt S W A1 d1) ∧ d1.length ≤ c1 ∧ c1 ≤ maxLen ∧ ∀ x ∈ d1, -9223372036854775808 ≤ x ∧ x ≤ 9223372036854775807)
    (h2 : (∀ S : Nat → Prop, (∀ k, S k → W.heap.size ≤ k) → IntsAt S W A2 d2) ∧ d2.length ≤ c2 ∧ c2 ≤ maxLen ∧ ∀ x ∈ d2, -9223372036854775808 ≤ x ∧ x ≤ 9223372036854775807) :
    Calls Try.prog 5 #[.slice A acts.length c, .slice A1 d1.length c1, .slice A2 d2.length c2] W fun e W' => e = .returned (.bool true) ∧ Below W.heap.size W W' := by
  have HA := Lib.hid hA
  have H1 := Lib.hid h1
  have H2 := Lib.hid h2
  have hal : acts.length ≤ 9223372036854775807 := by have := hA.1; unfold maxLen at this; omega
  have hd1 : d1.length ≤ 9223372036854775807 := by have := h1.2.1; have := h1.2.2.1; unfold maxLen at this; omega
  have hd2 : d2.length ≤ 9223372036854775807 := by have := h2.2.1; have := h2.2.2.1; unfold maxLen at this; omega
  clear hA h1 h2
  go_enter Try.func5, Try.ntmps5
  go_wp2_with fail
  refine (new_at W W (Below.refl _ _)).mono ?_
  rintro e W1 ⟨g, b', rfl, hA⟩
  have HD := Lib.hid hA
  clear hA
  go_wp2_with fail
  refine (works_walk W1).mono ?_
  rintro e W2 ⟨rfl, hB⟩
  have HD2 := Lib.hid (show ∃ d, At W W2 g b' d from ⟨_, HD.out.below hB⟩)
  clear hB HD
  go_wp2_with fail
  go_loopg [8] 101 (fun kq v8 w' => ∃ i : Nat, v8 = .int .i64 (i : Int) ∧ Hid (i + kq = 101 ∧ i ≤ 100) ∧ Hid (∃ d, At W w' g b' d))
  case atStart => exact ⟨0, rfl, Lib.hid ⟨by omega, by omega⟩, HD2⟩
  case round =>
    clear HD2
    obtain ⟨i, rfl, HI, HD⟩ := hrel
    obtain ⟨d, hD⟩ := HD.out
    obtain ⟨i1, i2⟩ := HI.out
    by_cases hi : i < acts.length ∧ i < 100
    · obtain ⟨q1, q2⟩ := hi
      obtain ⟨kq1, rfl⟩ : ∃ kq1, gk = kq1 + 1 := ⟨gk - 1, by omega⟩
      obtain ⟨ho, ad, rfl, hl, e0, e1, e2, e3, e4⟩ := (HA.out.move hD.bel).2 i q1
      have q1' : (i : Int) < (acts.length : Int) := by omega
      have q2' : (i : Int) < 100 := by omega
      obtain ⟨⟨kd, nm, dt, n, da, dl, dc, dz⟩, hx⟩ : ∃ x, acts[i] = x := ⟨_, rfl⟩
      rw [hx] at ho e0 e1 e2 e3 e4
      have HO := Lib.hid ho
      have HDD := Lib.hid hD
      clear hx ho hD HD hl
      simp only at e0 e1 e2 e3 e4
      rw [← add_add ad (i * 5) 1, add_far _ 1 (by decide)] at e1
      rw [← add_add ad (i * 5) 2, add_far _ 2 (by decide)] at e2
      rw [← add_add ad (i * 5) 3, add_far _ 3 (by decide)] at e3
      rw [← add_add ad (i * 5) 4, add_far _ 4 (by decide)] at e4
      have HDA := Lib.hid (HDD.out.alloc (.cells #[.int .i64 kd, .string nm, .string dt, .int .i64 n, .slice da dl dc] 38))
      go_wp2_with fail
      refine (among_walk kd 4 _ HO.out.kd (by decide) (by decide)).mono ?_
      rintro e w' ⟨rfl, rfl⟩
      have h40 := Int.emod_nonneg kd (show (4 : Int) ≠ 0 by decide)
      have h41 := Int.emod_lt_of_pos kd (show (0 : Int) < 4 by decide)
      generalize kd % 4 = km at h40 h41 ⊢
      obtain ⟨hn1, hn2⟩ := wf_i64 HO.out.n
      have hkm : km = 0 ∨ km = 1 ∨ km = 2 ∨ km = 3 := by omega
      clear h40 h41
      rcases hkm with rfl | rfl | rfl | rfl
      · go_wp2_with fail
        refine (append_at HDA.out nm dt (by have := HO.out.nm; simp only at this; unfold maxLen; omega) HO.out.dt).mono ?_
        rintro e W6 ⟨rfl, hA6⟩
        have HD6 := Lib.hid (show ∃ d, At W W6 g b' d from ⟨_, hA6⟩)
        clear hA6 e0 e1 e2 e3 e4
        go_wp2_with fail
        go_roundg kq1
        case measure => omega
        case rel => exact ⟨i + 1, by go_num, Lib.hid ⟨by omega, by omega⟩, HD6⟩
      · go_wp2_with fail
        refine (sync_at HDA.out nm (by have := HO.out.nm; simp only at this; unfold maxLen; omega)).mono ?_
        rintro e W6 ⟨rfl, hA6⟩
        have HD6 := Lib.hid (show ∃ d, At W W6 g b' d from ⟨_, hA6⟩)
        clear hA6 e0 e1 e2 e3 e4
        go_wp2_with fail
        go_roundg kq1
        case measure => omega
        case rel => exact ⟨i + 1, by go_num, Lib.hid ⟨by omega, by omega⟩, HD6⟩
      · go_wp2_with fail
        refine (rename_at HDA.out nm dt (by have := HO.out.nm; simp only at this; unfold maxLen; omega) (by have := HO.out.dt; simp only at this; unfold maxLen; omega)).mono ?_
        rintro e W6 ⟨rfl, hA6⟩
        have HD6 := Lib.hid (show ∃ d, At W W6 g b' d from ⟨_, hA6⟩)
        clear hA6 e0 e1 e2 e3 e4
        go_wp2_with fail
        go_roundg kq1
        case measure => omega
        case rel => exact ⟨i + 1, by go_num, Lib.hid ⟨by omega, by omega⟩, HD6⟩
      · go_wp2_with fail
        refine (fuse_at HDA.out n hn2).mono ?_
        rintro e W6 ⟨rfl, hA6⟩
        have HD6 := Lib.hid (show ∃ d, At W W6 g b' d from ⟨_, hA6⟩)
        clear hA6 e0 e1 e2 e3 e4
        go_wp2_with fail
        go_roundg kq1
        case measure => omega
        case rel => exact ⟨i + 1, by go_num, Lib.hid ⟨by omega, by omega⟩, HD6⟩
    · have hq : i < acts.length → ¬ i < 100 := fun h1 h2 => hi ⟨h1, h2⟩
      have HDD := Lib.hid hD
      clear hD HD i1 hi
      by_cases q1 : i < acts.length
      · have q2 := hq q1
        have q1' : (i : Int) < (acts.length : Int) := by omega
        have q2' : ¬ (i : Int) < 100 := by omega
        clear hq q1 q2
        go_wp2_with fail
        refine (crash_at HDD.out A1 d1 c1 ((H1.out.1 _ HDD.out.two).fr (Fr.of_below HDD.out.bel)) H1.out.2.1 H1.out.2.2.1 H1.out.2.2.2).mono ?_
        rintro e W3 ⟨rfl, hA3, -⟩
        rcases crash_two d d1 with ⟨hz, hl⟩ | ⟨hz, hl⟩
        · rw [hz]
          obtain ⟨d', hd'⟩ : ∃ d', (crash d d1).1 = d' := ⟨_, rfl⟩
          have HDE := Lib.hid (And.intro hz hd')
          rw [hd'] at hA3
          have HA3 := Lib.hid hA3
          clear hA3 hz hl hd'
          go_wp2_with fail
          refine (all_walk W3 g b' _ HA3.out.dk).mono ?_
          rintro e W4 ⟨v, rfl, hrow, hB⟩
          obtain ⟨A4, k4, rfl, hN4, -, -⟩ := own_row (S := Two g b') hrow (fun k hk e => by have := HA3.out.dk.lt; rcases e with e | e <;> omega)
          have HN4 := Lib.hid hN4
          have HA4 := Lib.hid (HA3.out.below hB)
          clear hrow hN4 hB
          go_wp2_with fail
          refine (crash_at HA4.out A2 d2 c2 ((H2.out.1 _ HA4.out.two).fr (Fr.of_below HA4.out.bel)) H2.out.2.1 H2.out.2.2.1 H2.out.2.2.2).mono ?_
          rintro e W5 ⟨rfl, hA5, hF5⟩
          have HN5 := Lib.hid (HN4.out.fr hF5)
          rcases crash_two d' d2 with ⟨hz, hl⟩ | ⟨hz, hl⟩
          · rw [hz]
            have hm : (crash d' d2).1.m = d'.m := by
              have := crash_twice HDD.out.dk.fine d1 d2 HDE.out.1 (by rw [HDE.out.2]; exact hz)
              rw [HDE.out.2] at this
              exact this
            have HL := Lib.hid (allL_m hm)
            have HA5 := Lib.hid hA5
            clear hA5 hF5 hz hl hm
            go_wp2_with fail
            refine (all_walk W5 g b' _ HA5.out.dk).mono ?_
            rw [HL.out]
            rintro e W6 ⟨v, rfl, hrow, hB⟩
            obtain ⟨A6, k6, rfl, hN6, -, -⟩ := own_row (S := fun _ => False) hrow (fun k hk e => e)
            have HN6 := Lib.hid hN6
            have HN56 := Lib.hid (HN5.out.fr (Fr.of_below hB))
            have HA6 := Lib.hid (HA5.out.below hB)
            clear hrow hN6 hB
            go_wp2_with fail
            refine (same_walk W6 _ _ A6 A4 (allL d') k6 k4 HN6.out HN56.out).mono ?_
            rintro e W7 ⟨rfl, hB7⟩
            have HA7 := Lib.hid (HA6.out.below hB7)
            clear hB7
            go_wp2
            go_ret
            exact ⟨rfl, HA7.out.bel⟩
          · rw [hz]
            have hl' : (4096 : Int) < (d2.length : Int) := by omega
            have HA5 := Lib.hid hA5
            clear hA5 hF5 hz hl
            go_wp2
            go_ret
            exact ⟨rfl, HA5.out.bel⟩
        · rw [hz]
          have HA3 := Lib.hid hA3
          clear hA3 hz hl
          go_wp2
          go_ret
          exact ⟨rfl, HA3.out.bel⟩
      · have q1' : ¬ (i : Int) < (acts.length : Int) := by omega
        clear hq q1
        go_wp2_with fail
        refine (crash_at HDD.out A1 d1 c1 ((H1.out.1 _ HDD.out.two).fr (Fr.of_below HDD.out.bel)) H1.out.2.1 H1.out.2.2.1 H1.out.2.2.2).mono ?_
        rintro e W3 ⟨rfl, hA3, -⟩
        rcases crash_two d d1 with ⟨hz, hl⟩ | ⟨hz, hl⟩
        · rw [hz]
          obtain ⟨d', hd'⟩ : ∃ d', (crash d d1).1 = d' := ⟨_, rfl⟩
          have HDE := Lib.hid (And.intro hz hd')
          rw [hd'] at hA3
          have HA3 := Lib.hid hA3
          clear hA3 hz hl hd'
          go_wp2_with fail
          refine (all_walk W3 g b' _ HA3.out.dk).mono ?_
          rintro e W4 ⟨v, rfl, hrow, hB⟩
          obtain ⟨A4, k4, rfl, hN4, -, -⟩ := own_row (S := Two g b') hrow (fun k hk e => by have := HA3.out.dk.lt; rcases e with e | e <;> omega)
          have HN4 := Lib.hid hN4
          have HA4 := Lib.hid (HA3.out.below hB)
          clear hrow hN4 hB
          go_wp2_with fail
          refine (crash_at HA4.out A2 d2 c2 ((H2.out.1 _ HA4.out.two).fr (Fr.of_below HA4.out.bel)) H2.out.2.1 H2.out.2.2.1 H2.out.2.2.2).mono ?_
          rintro e W5 ⟨rfl, hA5, hF5⟩
          have HN5 := Lib.hid (HN4.out.fr hF5)
          rcases crash_two d' d2 with ⟨hz, hl⟩ | ⟨hz, hl⟩
          · rw [hz]
            have hm : (crash d' d2).1.m = d'.m := by
              have := crash_twice HDD.out.dk.fine d1 d2 HDE.out.1 (by rw [HDE.out.2]; exact hz)
              rw [HDE.out.2] at this
              exact this
            have HL := Lib.hid (allL_m hm)
            have HA5 := Lib.hid hA5
            clear hA5 hF5 hz hl hm
            go_wp2_with fail
            refine (all_walk W5 g b' _ HA5.out.dk).mono ?_
            rw [HL.out]
            rintro e W6 ⟨v, rfl, hrow, hB⟩
            obtain ⟨A6, k6, rfl, hN6, -, -⟩ := own_row (S := fun _ => False) hrow (fun k hk e => e)
            have HN6 := Lib.hid hN6
            have HN56 := Lib.hid (HN5.out.fr (Fr.of_below hB))
            have HA6 := Lib.hid (HA5.out.below hB)
            clear hrow hN6 hB
            go_wp2_with fail
            refine (same_walk W6 _ _ A6 A4 (allL d') k6 k4 HN6.out HN56.out).mono ?_
            rintro e W7 ⟨rfl, hB7⟩
            have HA7 := Lib.hid (HA6.out.below hB7)
            clear hB7
            go_wp2
            go_ret
            exact ⟨rfl, HA7.out.bel⟩
          · rw [hz]
            have hl' : (4096 : Int) < (d2.length : Int) := by omega
            have HA5 := Lib.hid hA5
            clear hA5 hF5 hz hl
            go_wp2
            go_ret
            exact ⟨rfl, HA5.out.bel⟩
        · rw [hz]
          have HA3 := Lib.hid hA3
          clear hA3 hz hl
          go_wp2
          go_ret
          exact ⟨rfl, HA3.out.bel⟩
end Go.Proofs.Ytjkllbilfcopmaa.Dk
