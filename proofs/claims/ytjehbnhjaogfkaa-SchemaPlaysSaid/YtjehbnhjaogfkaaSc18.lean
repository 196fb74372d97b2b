import Derived.Test.YtjehbnhjaogfkaaSc17
namespace Go.Proofs.Ytjehbnhjaogfkaa.Sc
open Go.RowKit Go.Lib Go.Maps Go.WideAt Go.WideShapes Go.Proofs.YtjehbnhjaogfkaaW.PrintWords Go.Proofs.YtjehbnhjaogfkaaW.PrintLast Go.Proofs.YtjehbnhjaogfkaaW.PrintMore
open Go.Proofs.Ytjehbnhjaogfkaa
set_option linter.unusedVariables false
set_option linter.unusedSimpArgs false
theorem ba_ext {a b : ByteArray} (h : a.data.toList = b.data.toList) : a = b := by
  obtain ⟨x⟩ := a
  obtain ⟨y⟩ := b
  simp only at h
  rw [show x = y from Array.toList_inj.1 h]
/-- The schemas stand in their names' order. -/
def TR (a b : Tb) : Prop := bytesBefore a.nm.data.toList b.nm.data.toList = true
/-- A catalogue's entries stand at their own names. -/
def Named (M : CatM) : Prop := ∀ p ∈ M, p.1 = p.2.2.nm.data.toList
theorem IsCat.named {ok : Nat → Prop} {W : World} {g b : Nat} {M : CatM} (h : IsCat ok W g b M) : Named M := fun p hp => (h.tb p hp).1
theorem tbs_sorted {M : CatM} (hs : FL.St M) (hn : Named M) : (tbs M).Pairwise TR := by
  unfold tbs
  rw [List.pairwise_map]
  unfold FL.St FM.keys at hs
  rw [List.pairwise_map] at hs
  refine List.Pairwise.imp_of_mem (fun {a b} ha hb h => ?_) hs
  unfold TR
  rw [← hn a ha, ← hn b hb]
  exact h
theorem tbs_ext {l l' : List Tb} (h : l.Pairwise TR) (h' : l'.Pairwise TR) (hm : ∀ t, t ∈ l ↔ t ∈ l') : l = l' := by
  have irr : ∀ a : Tb, ¬ TR a a := fun a h => by unfold TR at h; rw [bytes_irrefl] at h; cases h
  have nd : ∀ {m : List Tb}, m.Pairwise TR → m.Nodup := fun hp => List.Pairwise.imp (fun {a b} (hab : TR a b) (e : a = b) => irr b (e ▸ hab)) hp
  have hp : l.Perm l' := (List.perm_ext_iff_of_nodup (nd h) (nd h')).2 hm
  refine List.Perm.eq_of_pairwise (le := TR) (fun a b _ _ h1 h2 => absurd (bytes_trans _ _ _ h1 h2) (by rw [bytes_irrefl]; decide)) h h' hp
theorem nameL_tbs {M : CatM} (hs : FL.St M) (hn : Named M) : nameL M = (tbs M).map (·.nm) := by
  rw [nameL_at hs]
  unfold tbs
  rw [List.map_map]
  refine List.map_congr_left fun p hp => ?_
  rw [hn p hp]
  rfl
theorem encR_tbs {M N : CatM} (h : tbs M = tbs N) : encR M = encR N := by unfold encR encM; rw [h]
/-- What stands in a catalogue: of the schemas P those that may be. -/
structure Says (M : CatM) (P : List Tb) : Prop where
  mem : ∀ t, t ∈ tbs M ↔ t ∈ P ∧ chk t = true
  len : M.length ≤ P.length
theorem says_nil : Says [] [] := ⟨fun t => by simp [tbs], Nat.le_refl _⟩
theorem mem_tbs {M : CatM} {t : Tb} : t ∈ tbs M ↔ ∃ p ∈ M, p.2.2 = t := by unfold tbs; exact List.mem_map
theorem get_some {M : CatM} (hn : Named M) {k : FM.Key} : (FM.get M k).isSome = true ↔ ∃ t ∈ tbs M, t.nm.data.toList = k := by
  constructor
  · intro h
    obtain ⟨p, hp⟩ := Option.isSome_iff_exists.1 h
    have hm := FM.mem_of_get hp
    exact ⟨p.2, mem_tbs.2 ⟨_, hm, rfl⟩, (hn _ hm).symm⟩
  · rintro ⟨t, ht, rfl⟩
    obtain ⟨p, hp, rfl⟩ := mem_tbs.1 ht
    obtain ⟨u, hu, -⟩ := FM.get_of_mem (show (p.1, p.2) ∈ M from hp)
    rw [← hn p hp, hu]; rfl
theorem says_add {M : CatM} {P : List Tb} (h : Says M P) (hn : Named M) (t : Tb) (hd : ∀ x ∈ P, x.nm ≠ t.nm) (hl : P.length < 4096) : crE M t = (if chk t then 0 else 140) ∧ ∀ v, Says (if chk t then FM.put M t.nm.data.toList (v, t) else M) (t :: P) := by
  have hg : (FM.get M t.nm.data.toList).isSome = false := by
    cases hg : (FM.get M t.nm.data.toList).isSome with
    | false => rfl
    | true =>
      obtain ⟨x, hx, hk⟩ := (get_some hn).1 hg
      exact absurd (ba_ext hk) (hd x ((h.mem x).1 hx).1)
  have hlen : ¬ 4096 ≤ M.length := by have := h.len; omega
  constructor
  · unfold crE
    rw [hg]
    cases chk t <;> simp [hlen]
  · intro v
    cases hc : chk t with
    | false =>
      refine ⟨fun x => ?_, by have := h.len; simp only [Bool.false_eq_true, if_false, List.length_cons]; omega⟩
      simp only [Bool.false_eq_true, if_false]
      rw [h.mem x, List.mem_cons]
      constructor
      · exact fun hx => ⟨.inr hx.1, hx.2⟩
      · rintro ⟨rfl | hx, h2⟩
        · rw [hc] at h2; cases h2
        · exact ⟨hx, h2⟩
    | true =>
      refine ⟨fun x => ?_, ?_⟩
      · simp only [if_true]
        rw [mem_tbs, List.mem_cons]
        constructor
        · rintro ⟨p, hp, rfl⟩
          rcases FM.mem_put.1 hp with rfl | ⟨hp, -⟩
          · exact ⟨.inl rfl, hc⟩
          · have := (h.mem _).1 (mem_tbs.2 ⟨p, hp, rfl⟩)
            exact ⟨.inr this.1, this.2⟩
        · rintro ⟨rfl | hx, h2⟩
          · exact ⟨_, FM.mem_put.2 (.inl rfl), rfl⟩
          · obtain ⟨p, hp, rfl⟩ := mem_tbs.1 ((h.mem x).2 ⟨hx, h2⟩)
            exact ⟨p, FM.mem_put.2 (.inr ⟨hp, fun e => hd _ hx (ba_ext ((hn p hp).symm.trans e))⟩), rfl⟩
      · simp only [if_true, List.length_cons]
        have := FM.len_put_new M t.nm.data.toList (v, t)
        have := h.len
        omega
theorem says_del {M : CatM} {P Q : List Tb} {x : Tb} (h : Says M P) (hn : Named M) (hP : ∀ t, t ∈ P ↔ t = x ∨ t ∈ Q) (hQ : ∀ t ∈ Q, t.nm ≠ x.nm) : (FM.get M x.nm.data.toList).isSome = chk x ∧ ∀ t, t ∈ tbs (FM.del M x.nm.data.toList) ↔ t ∈ Q ∧ chk t = true := by
  constructor
  · cases hc : chk x with
    | true => exact (get_some hn).2 ⟨x, (h.mem x).2 ⟨(hP x).2 (.inl rfl), hc⟩, rfl⟩
    | false =>
      cases hg : (FM.get M x.nm.data.toList).isSome with
      | false => rfl
      | true =>
        obtain ⟨t, ht, hk⟩ := (get_some hn).1 hg
        obtain ⟨h1, h2⟩ := (h.mem t).1 ht
        rcases (hP t).1 h1 with rfl | h1
        · rw [hc] at h2; cases h2
        · exact absurd (ba_ext hk) (hQ t h1)
  · intro t
    rw [mem_tbs]
    constructor
    · rintro ⟨p, hp, rfl⟩
      obtain ⟨hp, hk⟩ := FM.mem_del.1 hp
      obtain ⟨h1, h2⟩ := (h.mem _).1 (mem_tbs.2 ⟨p, hp, rfl⟩)
      rcases (hP _).1 h1 with e | h1
      · exact absurd (by rw [hn p hp, e]) hk
      · exact ⟨h1, h2⟩
    · rintro ⟨h1, h2⟩
      obtain ⟨p, hp, rfl⟩ := mem_tbs.1 ((h.mem t).2 ⟨(hP t).2 (.inr h1), h2⟩)
      exact ⟨p, FM.mem_del.2 ⟨hp, fun e => hQ _ h1 (ba_ext ((hn p hp).symm.trans e))⟩, rfl⟩
/-- Sizes that any schema has. -/
structure TSz (t : Tb) : Prop where
  nm : t.nm.size ≤ maxLen
  cnm : ∀ x ∈ t.cols, x.nm.size ≤ maxLen
  xnm : ∀ x ∈ t.ixs, x.nm.size ≤ maxLen
  cl : t.cols.length ≤ 140737488355328
  il : t.ixs.length ≤ 140737488355328
  xl : ∀ x ∈ t.ixs, x.cols.length ≤ 140737488355328
/-- Another catalogue's map may change. -/
theorem IsCat.other {ok ok' : Nat → Prop} {W W1 : World} {g b g' b' : Nat} {M M' : CatM} (h : IsCat ok W g b M) (h' : IsCat ok' W g' b' M') (hf : Fr (fun k => k = b') W W1) (hb : b ≠ b') : IsCat ok W1 g b M := by
  obtain ⟨es, cl, hbb, -⟩ := h'.own
  have hg : ¬ g = b' := fun e => by have := h.blk; rw [e, hbb] at this; cases this
  refine ⟨(hf.block g h.lt.1 hg).trans h.blk, ownV_move h.own (hf.block b h.lt.2 hb), fun p hp => ⟨(h.tb p hp).1, (h.tb p hp).2.1, (h.tb p hp).2.2.move fun k hk hlt hc => hf.block k hlt fun e => ?_⟩, h.st, h.len⟩
  obtain ⟨q, cells, -, hc⟩ := hc
  rw [e, hbb] at hc
  cases hc
/-- Create, of a schema of a new name. -/
theorem cr_step (W : World) (g b : Nat) (M : CatM) (P : List Tb) (h : IsCat (fun _ => True) W g b M) (hs : Says M P) (t : Tb) (A : Option Addr) (ca : Nat) (B : Option Addr) (cb : Nat) (hA : kcol.C W A t.cols.length t.cols) (hca : t.cols.length ≤ ca) (hB : kix.C W B t.ixs.length t.ixs) (hcb : t.ixs.length ≤ cb) (hz : TSz t)
    (hd : ∀ x ∈ P, x.nm ≠ t.nm) (hl : P.length < 4096) :
    Calls Try.prog 9 #[.pointer (some ⟨g, 0, none⟩), .agg #[.string t.nm, .slice A t.cols.length ca, .int .i64 t.key, .slice B t.ixs.length cb]] W fun e w' => e = .returned (.int .i64 (if chk t then 0 else 140)) ∧ Fr (fun k => k = b) W w' ∧ ∃ M', IsCat (fun _ => True) w' g b M' ∧ Says M' (t :: P) := by
  refine (create_walk _ W g b M h t A ca B cb hA hca hB hcb hz.nm hz.cnm hz.xnm hz.cl hz.il hz.xl).mono ?_
  rintro e w' ⟨he, hf, hq⟩
  obtain ⟨h1, h2⟩ := says_add hs h.named t hd hl
  rw [h1] at he hq
  refine ⟨he, hf, ?_⟩
  cases hc : chk t with
  | true =>
    rw [hc] at hq h2
    rw [if_pos (by rfl)] at hq
    obtain ⟨v, hv⟩ := hq
    exact ⟨_, hv.mono fun _ _ _ => trivial, by simpa using h2 v⟩
  | false =>
    rw [hc] at hq h2
    rw [if_neg (by decide)] at hq
    exact ⟨_, hq, by simpa using h2 zt⟩
/-! The map of what was seen. -/
theorem zero4 (w : World) : (zeroValue 4).run Try.prog w = .ok (.bool false) w := by kernel_rfl
theorem lookB_run {W : World} (b : Nat) (fs : FM.T Value) (hown : OwnV W b fs) (s : ByteArray) (hs : s.size ≤ maxLen) : (Instr.lookup 26 (.map (some b)) (.string s) false).run Try.prog W = .ok ((FM.get fs s.data.toList).getD (.bool false)) W := by
  obtain ⟨v, ps, hr, hv⟩ := hown.lookup (Go.Maps.string_keyed Try.underlying9) Try.underlying26 (zero4 W) (rfl : rawR (.bool false) = some (DataW.held (.bool false), [])) (key9 s hs)
  rw [FM.toD_at] at hv
  rw [hr, rawR_inv hv]
theorem step_putB {ops : Array Oper} {rest : List Oper} {o : Oper} {a : Act} {Q : Exit → Act → World → Prop} {W : World} (hg : o.guard = none) (m x v : Operand) (hop : o.op = Op.mapUpdate 26 m x v) (b : Nat) (fs : FM.T Value) (hm : a.eval m = .map (some b)) (hown : OwnV W b fs) (hn : fs.length ≤ 1000000) (s : ByteArray) (f : Value) (hx : a.eval x = .string s) (hv : a.eval v = f) (hs : s.size ≤ maxLen)
    (hK : ∀ W1, OwnV W1 b (FM.put fs s.data.toList f) → W.grownBy W1 (some b) → wpList Try.prog ops Q rest (a.put o.dst undef) W1) : wpList Try.prog ops Q (o :: rest) a W := by
  refine wpList_mapUpdate_own W hg m x v 26 hop 9 4 (Go.Maps.string_keyed Try.underlying9) Try.underlying26 rawR b fs.length _ hm hown (by unfold maxLen; omega) (.string s) f (.string s.data.toList) hx hv (key9 s hs) (DataW.held f) [] rfl ?_
  intro W1 h1 h2
  rw [FM.toD_put] at h1
  exact hK W1 (ownV_tight h1) h2
/-- Members that lie elsewhere, read in w0. -/
def kfr {α : Type} (d : Kd α) (w0 : World) : Kd α where
  sz := d.sz
  E := []
  K := fun w x cs => d.K w0 x cs
  M := fun w base ok x cs => d.K w0 x cs
  K_len := fun hk => d.K_len hk
  K_one := fun hk => d.K_one hk
  K_below := fun hb hk => hk
  K_of_M := fun hk => hk
  M_mono := fun hok hk => hk
  M_bound := fun hk => hk
  M_move := fun hm hk => hk
  M_lower := fun hb hk => hk
theorem info30 : (Try.prog.info? 30).map (fun i => (i.zero, i.size, i.bytes)) = some (some zt, 4, 72) := by kernel_rfl
end Go.Proofs.Ytjehbnhjaogfkaa.Sc
