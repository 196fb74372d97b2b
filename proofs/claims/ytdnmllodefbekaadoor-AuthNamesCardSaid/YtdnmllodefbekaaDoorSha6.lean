import Derived.Test.YtdnmllodefbekaaDoorSha2
import Derived.Lib.BufferWrite
namespace Go.Proofs.YtdnmllodefbekaaDoor.Sha
open Go.RowKit Go.Lib Go.Proofs.YtdnmllodefbekaaDoorW.PrintWords Go.Proofs.YtdnmllodefbekaaDoorW.PrintLast Go.Proofs.YtdnmllodefbekaaDoorW.PrintMore
set_option linter.unusedVariables false
set_option linter.unusedSimpArgs false
/-- A key, each byte put together with another one. -/
def padL (key : List Int) (y : Int) : List Int := (key ++ List.replicate (64 - key.length) 0).map fun x => Go.bits .xor .u8 x y
def mixP (src : List Int) (y : Int) (t : Nat) : List Int := ((src.take t).map fun x => Go.bits .xor .u8 x y) ++ src.drop t
theorem mixP_len (src : List Int) (y : Int) (t : Nat) : (mixP src y t).length = src.length := by
  unfold mixP
  simp; omega
theorem rd_mixP (src : List Int) (y : Int) (t : Nat) (h : t < src.length) : rd (mixP src y t) t = rd src t := by
  unfold mixP rd
  simp [List.getD_eq_getElem?_getD, List.getElem?_append, Nat.min_eq_left (Nat.le_of_lt h)]
theorem mixP_set (src : List Int) (y : Int) (t : Nat) (h : t < src.length) : (mixP src y t).set t (Go.bits .xor .u8 (rd src t) y) = mixP src y (t + 1) := by
  unfold mixP
  rw [List.set_append_right _ _ (by simp; omega)]
  have e1 : ((src.take t).map fun x => Go.bits .xor .u8 x y).length = t := by rw [List.length_map, List.length_take]; omega
  rw [e1, Nat.sub_self, List.drop_eq_getElem_cons h, List.set_cons_zero, List.take_succ_eq_append_getElem h, List.map_append, List.append_assoc]
  congr 1
  simp [rd, List.getD_eq_getElem?_getD, h]
theorem mixP_end (src : List Int) (y : Int) (h : src.length = 64) : mixP src y 64 = src.map fun x => Go.bits .xor .u8 x y := by
  unfold mixP
  rw [List.take_of_length_le (by omega), List.drop_of_length_le (by omega), List.append_nil]
theorem info5' : (Tryd.prog.info? 5).map (·.size) = some 1 := by kernel_rfl
theorem byte_put (key : ByteArray) (h : key.size ≤ 64) : (((nums .u8 (List.replicate 64 0)).toArray.toList.take 0 ++ byteCells key.data.toList ++ (nums .u8 (List.replicate 64 0)).toArray.toList.drop (0 + key.size)).toArray) = (nums .u8 (bytesOf key ++ List.replicate (64 - (bytesOf key).length) 0)).toArray := by
  rw [bytesOf_length]
  congr 1
  have e : byteCells key.data.toList = nums .u8 (bytesOf key) := by simp [byteCells, nums, bytesOf]
  rw [e, List.take_zero, List.nil_append, Nat.zero_add, nums_append]
  congr 1
  unfold nums
  rw [← List.map_drop, List.drop_replicate]
theorem run_copy_pad (W : World) (g : Nat) (key : ByteArray) (h : key.size ≤ 64) (hg : W.heap[g]? = some (.cells (nums .u8 (List.replicate 64 0)).toArray 91 (0, 0))) :
    (Builtin.copy_ #[32, 9] 3 #[.slice (some ⟨g, 0, none⟩) 64 64, .string key]).run Tryd.prog W = .ok (goInt key.size) (W.setRow g (nums .u8 (bytesOf key ++ List.replicate (64 - (bytesOf key).length) 0)).toArray) := by
  rw [run_copy_row_string W 32 9 3 5 g 0 64 64 key _ 91 Tryd.underlying32 info5' hg h (by simp [nums]; omega), byte_put key h]
theorem pad_start (w : World) (key : ByteArray) (y_ : Int) : ((w.alloc (.cells (nums .u8 (List.replicate 64 0)).toArray 91)).setRow w.heap.size (nums .u8 (bytesOf key ++ List.replicate (64 - (bytesOf key).length) 0)).toArray).heap[w.heap.size]? = some (.cells (nums .u8 (mixP (bytesOf key ++ List.replicate (64 - (bytesOf key).length) 0) y_ 0)).toArray 91 (0, 0)) ∧
    Below w.heap.size w ((w.alloc (.cells (nums .u8 (List.replicate 64 0)).toArray 91)).setRow w.heap.size (nums .u8 (bytesOf key ++ List.replicate (64 - (bytesOf key).length) 0)).toArray) := by
  refine ⟨by simpa [mixP] using setRow_heap (w.alloc (.cells (nums .u8 (List.replicate 64 0)).toArray 91)) w.heap.size _ _ 91 _ (heap_alloc_new w _), ?_⟩
  refine (below_alloc (Below.refl w.heap.size w) _).grown (row := some w.heap.size) ⟨rfl, rfl, rfl, by simp [World.setRow], fun k _ hk => setRow_other _ _ k _ fun e => hk (by rw [e])⟩ (by simp) fun k hk => by injection hk with hk; omega
theorem copy_run {P : Program} {w w1 : World} {o : Oper} {a : Act} {d s : Operand} {dT sT : TypeId} {x y v : Value} (ho : o.op = .call { callee := .builtin .copy, args := #[d, s], argTypes := #[dT, sT] }) (hd : a.eval d = x) (hs : a.eval s = y) (h : (Builtin.copy_ #[dT, sT] o.type #[x, y]).run P w = .ok v w1) : (execOp a.eval o).run P w = .ok (.value v) w1 := by
  simp [execOp, ho, resolve, invoke, builtin, hd, hs, h, Result.andThen]
theorem row_reads {W : World} {g t n : Nat} {xs : List Int} (h : W.heap[g]? = some (.cells (nums .u8 xs).toArray t (0, 0))) (hn : xs.length = n) (hm : n ≤ 9223372036854775807 := by decide) : ReadsInt W .u8 (some ⟨g, 0, none⟩) n xs :=
  ⟨hn, hm, fun _ => ⟨_, rfl, fun j hj => by rw [add_plain, cell_nums h j (by omega)]; simp [rd]⟩⟩
set_option maxRecDepth 100000 in
set_option maxHeartbeats 8000000 in
theorem padded_walk (key : ByteArray) (y : Int) (w : World) (h : key.size ≤ 64) :
    Calls Tryd.prog 44 #[.string key, .int .u8 y] w fun e w' => e = .returned (.string (strOfNums (padL (bytesOf key) y))) ∧ Below w.heap.size w w' := by
  go_enter Tryd.func44, Tryd.ntmps44
  go_wp2_with (first | ((with_reducible refine gate_builtin (b := .copy) (xs := #[.tmp 7, .tmp 8]) rfl ?_); refine Kd.event_run (v := goInt key.size) (w1 := (w.alloc (.cells (nums .u8 (List.replicate 64 0)).toArray 91)).setRow w.heap.size (nums .u8 (bytesOf key ++ List.replicate (64 - (bytesOf key).length) 0)).toArray) rfl (copy_run rfl rfl rfl (run_copy_pad _ _ key h (heap_alloc_new w _))) ?_; have HW := Aside0.mk (pad_start w key y); generalize ((w.alloc (.cells (nums .u8 (List.replicate 64 0)).toArray 91)).setRow w.heap.size (nums .u8 (bytesOf key ++ List.replicate (64 - (bytesOf key).length) 0)).toArray) = w1 at HW ⊢))
  have hsl : (bytesOf key ++ List.replicate (64 - (bytesOf key).length) 0).length = 64 := by rw [List.length_append, List.length_replicate, bytesOf_length]; omega
  have HE := Aside0.mk (show padL (bytesOf key) y = mixP (bytesOf key ++ List.replicate (64 - (bytesOf key).length) 0) y 64 from by rw [mixP_end _ _ hsl]; rfl)
  have HL := Aside0.mk hsl
  generalize (bytesOf key ++ List.replicate (64 - (bytesOf key).length) 0) = src at *
  clear hsl
  go_loopg [10] 65 (fun kq v10 w' => ∃ t : Nat, v10 = .int .i64 (t : Int) ∧ Aside0 (t + kq = 65 ∧ t ≤ 64) ∧ Aside0 (w'.heap[w.heap.size]? = some (.cells (nums .u8 (mixP src y t)).toArray 91 (0, 0)) ∧ Below w.heap.size w w'))
  case atStart => exact ⟨0, rfl, ⟨rfl, Nat.zero_le _⟩, HW⟩
  case round =>
    obtain ⟨t, rfl, HT, HV⟩ := hrel
    by_cases q1 : t < 64
    · obtain ⟨kq1, rfl⟩ : ∃ kq1, gk = kq1 + 1 := ⟨gk - 1, by have := HT.out; omega⟩
      have q1' : (t : Int) < 64 := by omega
      have ht : t < src.length := by rw [HL.out]; exact q1
      have cz := cell_nums HV.out.1 t (by rw [mixP_len]; exact ht)
      have fz := blk_frozen HV.out.1 t
      rw [rd_mixP _ _ _ ht] at cz
      have HS := Aside0.mk (mixP_set src y t ht)
      have HQ := Aside0.mk q1
      generalize rd src (t : Nat) = x at *
      clear ht q1
      go_wp2
      go_roundg kq1
      case measure => omega
      case rel =>
        refine ⟨t + 1, by simp, ⟨by have := HT.out; omega, by have := HQ.out; omega⟩, ⟨?_, below_set HV.out.2 (Nat.le_refl _)⟩⟩
        rw [← HS.out]
        exact blk_put HV.out.1 t _ (by simp [nums, List.map_set])
    · have q1' : ¬ (t : Int) < 64 := by omega
      obtain rfl : t = 64 := by have := HT.out; omega
      have hcv := string_of_reads (P := Tryd.prog) (c := 64) Tryd.underlying32 Tryd.underlying5 Tryd.underlying9 (row_reads HV.out.1 (by rw [mixP_len, HL.out]))
      clear q1 q1'
      go_wp2
      go_ret
      exact ⟨by rw [HE.out]; rfl, HV.out.2⟩
end Go.Proofs.YtdnmllodefbekaaDoor.Sha
