-- WRITTEN BY wip/tools/myprint.py, a program of this session, over the kit's printer
import Derived.Test.YticnolkbmpmgcaaSh
import Derived.Test.YticnolkbmpmgcaaQNx0
import Derived.Test.YticnolkbmpmgcaaQNx2
namespace Go.Proofs.Yticnolkbmpmgcaa.QN
open Go.Proofs.Yticnolkbmpmgcaa.Sh
open Go.RowKit Go.Proofs.YticnolkbmpmgcaaW.PrintWords Go.Proofs.YticnolkbmpmgcaaW.PrintLast Go.Proofs.YticnolkbmpmgcaaW.PrintMore
attribute [local go_sem] max2_int min2_int max_two min_two max_three min_three max_four min_four   -- for this text's walks alone
open Go.Proofs.Yticnolkbmpmgcaa.Fl
attribute [local go_sem high] bo_eq bo_ne bo_lt bo_le bo_gt bo_ge
attribute [local go_sem] run39 run40 neg_fl
set_option linter.unusedVariables false
set_option linter.unusedSimpArgs false

/-! ### num_Text: function 32 -/
theorem num_Text.blk_two {w : World} {g : Nat} {t : TypeId} {a b : Value} (h : w.heap[g]? = some (.cells #[a, b] t (0, 0))) :
    w.cell? ⟨g, 0, none⟩ = some a ∧ w.cell? ⟨g, 1, none⟩ = some b ∧ w.frozen? ⟨g, 0, none⟩ = false ∧ w.frozen? ⟨g, 1, none⟩ = false :=
  ⟨(blk_cell h 0).trans rfl, (blk_cell h 1).trans rfl, blk_frozen h 0, blk_frozen h 1⟩
def num_Text.buf (l : List Int) : Array Value := (List.replicate (24 - l.length) (Value.int .u8 0) ++ l.map (Value.int .u8)).toArray
def num_Text.hexL : Nat → Int → List Int → List Int
  | 0, _, acc => acc
  | k + 1, m, acc => num_Text.hexL k (m / 16) (bt (⟨#[48, 49, 50, 51, 52, 53, 54, 55, 56, 57, 97, 98, 99, 100, 101, 102]⟩ : ByteArray) (m % 16) :: acc)
def num_Text.decL : Nat → Int → List Int → List Int
  | 0, _, acc => acc
  | k + 1, m, acc => if m / 10 = 0 then (48 + m % 10) :: acc else num_Text.decL k (m / 10) ((48 + m % 10) :: acc)
def num_Text.s (t n : Int) : ByteArray :=
  if t = 3 then (⟨#[48, 102]⟩ : ByteArray) ++ strOfNums (num_Text.hexL 16 (IntKind.u64.wrap n) []) else if n < 0 then strOfNums (45 :: num_Text.decL 20 (IntKind.u64.wrap (-(IntKind.u64.wrap n))) []) else strOfNums (num_Text.decL 20 (IntKind.u64.wrap n) [])
def num_Text.f (a0_0 : Int) (a0_1 : Int) : Option (ByteArray) := (num_Is.f a0_0 a0_1).bind fun b => if b = true then some (num_Text.s a0_0 a0_1) else some (⟨#[]⟩ : ByteArray)
theorem num_Text.u64_bd (n : Int) : 0 ≤ IntKind.u64.wrap n ∧ IntKind.u64.wrap n < 18446744073709551616 := by
  simp only [IntKind.wrap, IntKind.bits, IntKind.signed]
  exact ⟨Int.emod_nonneg _ (by decide), Int.emod_lt_of_pos _ (by decide)⟩
theorem num_Text.w64 (n : Int) (h0 : 0 ≤ n) (h : n < 2 ^ 64) : IntKind.u64.wrap n = n := by
  simp only [IntKind.wrap, IntKind.bits, IntKind.signed]
  exact Int.emod_eq_of_lt h0 h
theorem num_Text.and15 (m : Int) (h : 0 ≤ m) (h2 : m < 2 ^ 64) : Go.bits .and .u64 m 15 = m % 16 := bits_mask .u64 64 (by decide) num_Text.w64 4 (by decide) m h h2
theorem num_Text.buf_at (l : List Int) (q : Nat) (h : q + 1 + l.length = 24) : (num_Text.buf l)[q]? = some (.int .u8 0) := by
  unfold num_Text.buf
  rw [List.getElem?_toArray, List.getElem?_append_left (by simp; omega), List.getElem?_replicate, if_pos (by omega)]
theorem num_Text.buf_set (l : List Int) (q : Nat) (x : Int) (h : q + 1 + l.length = 24) : (num_Text.buf l).setIfInBounds q (.int .u8 x) = num_Text.buf (x :: l) := by
  unfold num_Text.buf
  obtain rfl : q = 23 - l.length := by omega
  simp only [List.setIfInBounds_toArray, List.length_cons, List.map_cons]
  congr 1
  rw [List.set_append_left _ _ (by simp; omega), show 24 - l.length = (23 - l.length) + 1 by omega, List.replicate_succ', List.set_append_right _ _ (by simp), show 24 - (l.length + 1) = 23 - l.length by omega]
  simp
theorem num_Text.buf_read (l : List Int) (q : Nat) (h : q + l.length = 24) (i : Nat) (hi : i < l.length) : (num_Text.buf l)[q + i]? = some (.int .u8 (l.getD i 0)) := by
  unfold num_Text.buf
  rw [List.getElem?_toArray, List.getElem?_append_right (by simp; omega), List.getElem?_map, List.length_replicate, show q + i - (24 - l.length) = i by omega, List.getElem?_eq_getElem hi]
  simp [List.getD_eq_getElem?_getD, List.getElem?_eq_getElem hi]
theorem num_Text.pow_step (m : Int) (k : Nat) (h0 : 0 ≤ m) (h : m * 10 ^ k < 18446744073709551616) : m / 10 * 10 ^ (k + 1) < 18446744073709551616 := by
  have h1 : m / 10 * 10 ≤ m := by omega
  have h2 : (0 : Int) ≤ 10 ^ k := Int.pow_nonneg (by decide)
  rw [show (10 : Int) ^ (k + 1) = 10 * 10 ^ k by rw [Int.pow_succ]; omega, ← Int.mul_assoc]
  exact Int.lt_of_le_of_lt (Int.mul_le_mul_of_nonneg_right h1 h2) h
theorem num_Text.div10 (m : Int) (h0 : 0 ≤ m) (h : m < 18446744073709551616) : IntKind.u64.wrap (m.tdiv 10) = m / 10 := by
  rw [Int.tdiv_eq_ediv_of_nonneg h0]
  exact num_Text.w64 _ (by omega) (by omega)
theorem num_Text.cut (g q : Nat) (h : q < 24) (w_ : World) : (Instr.sliceAt 77 (.pointer (some ⟨g, 0, none⟩)) (some (.int .i64 q)) none none).run Try.prog w_ = .ok (.slice (some ⟨g, q, none⟩) (24 - q) (24 - q)) w_ := by
  have e1 : Try.prog.arrayLen 77 = 24 := by kernel_rfl
  have e2 : ∀ v : World, (sizeOf (Try.prog.elem 77)).run Try.prog v = .ok 1 v := fun v => by kernel_rfl
  rw [run_sliceAt_array_l (P := Try.prog) w_ 77 ⟨g, 0, none⟩ (by kernel_rfl) .i64 q (by omega) (by rw [e1]; omega), e2]
  simp only [Result.andThen, slicedAt, e1, Int.toNat_natCast, Nat.mul_one]
  rw [if_neg (by omega), add_plain]
theorem num_Text.pow_end (m : Int) (h0 : 1 ≤ m) (h : m * 10 ^ 20 < 18446744073709551616) : False := by omega

set_option maxHeartbeats 4000000 in
theorem num_Text.hex (n : Int) (w : World) (h : num_Is.f 3 n = some true) :
    Calls Try.prog 32 #[.agg #[.int .i64 3, .int .i64 n]] w fun e w' => e = .returned (.string ((⟨#[48, 102]⟩ : ByteArray) ++ strOfNums (num_Text.hexL 16 (IntKind.u64.wrap n) []))) ∧ Below w.heap.size w w' := by
  have HB := Aside0.mk (Below.refl w.heap.size w)
  have hu23 := Try.underlying23
  go_enter Try.func32, Try.ntmps32
  go_wp2_with (first
      | ((with_reducible refine gate_dst (N := 1) rfl ?_); refine box_event ?hgb1 (N := 1) ?hdb1 (cs := #[.int .i64 3, .int .i64 n]) (t := 23) ?hrb1 ?_; (case hdb1 => rfl); (case hgb1 => rfl); (case hrb1 => first | (go_simp; done) | (go_simp; rfl)); intro g_v hg w1_ hbox hb; have z1_ := Aside0.mk hbox; have GE_v := Aside0.mk ((by rw [hg]; exact (below_size HB.out)) : w.heap.size ≤ g_v); replace HB := Aside0.mk (below_step HB.out hb); have BK_v := z1_; clear z1_ hb hbox hg; obtain ⟨hc_v_0, hc_v_1, hf_v_0, hf_v_1⟩ := num_Text.blk_two BK_v.out)
      | ((with_reducible refine gate_callee (f := 15) rfl ?_); refine goesL_ (some 8) rfl rfl Try.func15 (by kernel_rfl) rfl #[.agg #[.int .i64 3, .int .i64 n]] rfl (by (try simp only [List.map_toArray, List.map_cons, List.map_nil]); first | done | rfl) ?_; (with_reducible refine (num_Is.calls 3 n true _ h).mono ?_); rintro e w2_ ⟨rfl, hb⟩; refine ⟨_, rfl, ?_⟩; replace HB := Aside0.mk (below_step HB.out hb); replace BK_v := Aside0.mk (blk_below BK_v.out hb); clear hb; obtain ⟨hc_v_0, hc_v_1, hf_v_0, hf_v_1⟩ := num_Text.blk_two BK_v.out)
      | ((with_reducible refine gate_dst (N := 3) rfl ?_); refine box_event ?hgb3 (N := 3) ?hdb3 (cs := #[(.int .u8 0), (.int .u8 0), (.int .u8 0), (.int .u8 0), (.int .u8 0), (.int .u8 0), (.int .u8 0), (.int .u8 0), (.int .u8 0), (.int .u8 0), (.int .u8 0), (.int .u8 0), (.int .u8 0), (.int .u8 0), (.int .u8 0), (.int .u8 0), (.int .u8 0), (.int .u8 0), (.int .u8 0), (.int .u8 0), (.int .u8 0), (.int .u8 0), (.int .u8 0), (.int .u8 0)]) (t := 77) ?hrb3 ?_; (case hdb3 => rfl); (case hgb3 => rfl); (case hrb3 => first | (go_simp; done) | (go_simp; rfl)); intro g_b hg w3_ hbox hb; have z1_ := Aside0.mk hbox; have GE_b := Aside0.mk ((by rw [hg]; exact (below_size HB.out)) : w.heap.size ≤ g_b); have NE_v_b := Aside0.mk ((by rw [hg]; exact Nat.ne_of_lt (blk_lt BK_v.out)) : g_v ≠ g_b); replace HB := Aside0.mk (below_step HB.out hb); replace BK_v := Aside0.mk (blk_below BK_v.out hb); have BK_b := z1_; clear z1_ hb hbox hg; obtain ⟨hc_v_0, hc_v_1, hf_v_0, hf_v_1⟩ := num_Text.blk_two BK_v.out))
  go_loopg [4, 5, 16] 16 (fun kq v4 v5 v16 w' => ∃ (l : List Int) (m : Int) (q : Nat), v4 = .int .i64 q ∧ v5 = .int .u64 m ∧ v16 = .int .i64 l.length ∧ q + l.length = 24 ∧ l.length + kq = 16 ∧ 0 ≤ m ∧ Aside0 (m < 18446744073709551616) ∧ Aside0 (num_Text.hexL kq m l = num_Text.hexL 16 (IntKind.u64.wrap n) []) ∧ Aside0 (w'.heap[g_b]? = some (.cells (num_Text.buf l) 77 (0, 0))) ∧ Aside0 (Below w.heap.size w w'))
  case atStart => exact ⟨[], _, 24, rfl, rfl, rfl, by simp, by simp, (num_Text.u64_bd n).1, ⟨(num_Text.u64_bd n).2⟩, ⟨rfl⟩, ⟨BK_b.out⟩, ⟨HB.out⟩⟩
  case round =>
    clear hc_v_0 hc_v_1 hf_v_0 hf_v_1 HB BK_v BK_b
    obtain ⟨l, m, q, rfl, rfl, rfl, hq, hl, hm, HM, HX, BK_b, HB⟩ := hrel
    cases gk with
    | zero =>
      obtain rfl : q = 8 := by omega
      have hz : l.length = 16 := by omega
      have hcv := run_convert_bytes_arg (P := Try.prog) wr 79 5 Try.underlying79 Try.underlying5 g_b 8 16 16 l hz (fun i hi => (blk_cell BK_b.out (8 + i)).trans (num_Text.buf_read l 8 (by omega) i (by omega))) 9 Try.underlying9
      have hsz : (strOfNums l).size = 16 := by rw [strOfNums_size]; exact hz
      have hl2 : ¬ ((l.length : Int) < 16) := by omega
      have HX2 : Aside0 (l = num_Text.hexL 16 (IntKind.u64.wrap n) []) := ⟨HX.out⟩
      clear HX hq hl hz
      go_wp2
      go_ret
      exact ⟨by rw [← HX2.out]; rfl, HB.out⟩
    | succ k =>
      have hidx := num_Text.and15 m hm HM.out
      have hx := bt_at (⟨#[48, 49, 50, 51, 52, 53, 54, 55, 56, 57, 97, 98, 99, 100, 101, 102]⟩ : ByteArray) (m % 16)
      obtain ⟨q, rfl⟩ : ∃ z, q = z + 1 := ⟨q - 1, by omega⟩
      have hcb : wr.cell? ⟨g_b, q, none⟩ = some (.int .u8 0) := (blk_cell BK_b.out q).trans (num_Text.buf_at _ _ (by omega))
      have hfb := blk_frozen BK_b.out q
      go_wp2
      go_roundg k
      case measure => omega
      case rel => exact ⟨_ :: l, m / 16, q, (by go_num), rfl, (by simp), (by simp; omega), (by simp; omega), (by omega), ⟨by have := HM.out; omega⟩, ⟨by rw [← HX.out]; rfl⟩, ⟨blk_put BK_b.out q _ (num_Text.buf_set l q _ (by omega))⟩, ⟨below_set HB.out GE_b.out⟩⟩

set_option maxHeartbeats 4000000 in
theorem num_Text.dec (n : Int) (w : World) (h : num_Is.f 2 n = some true) (hn : 0 ≤ n) :
    Calls Try.prog 32 #[.agg #[.int .i64 2, .int .i64 n]] w fun e w' => e = .returned (.string (strOfNums (num_Text.decL 20 (IntKind.u64.wrap n) []))) ∧ Below w.heap.size w w' := by
  have HB := Aside0.mk (Below.refl w.heap.size w)
  have hu23 := Try.underlying23
  go_enter Try.func32, Try.ntmps32
  go_wp2_with (first
      | ((with_reducible refine gate_dst (N := 1) rfl ?_); refine box_event ?hgb1 (N := 1) ?hdb1 (cs := #[.int .i64 2, .int .i64 n]) (t := 23) ?hrb1 ?_; (case hdb1 => rfl); (case hgb1 => rfl); (case hrb1 => first | (go_simp; done) | (go_simp; rfl)); intro g_v hg w1_ hbox hb; have z1_ := Aside0.mk hbox; have GE_v := Aside0.mk ((by rw [hg]; exact (below_size HB.out)) : w.heap.size ≤ g_v); replace HB := Aside0.mk (below_step HB.out hb); have BK_v := z1_; clear z1_ hb hbox hg; obtain ⟨hc_v_0, hc_v_1, hf_v_0, hf_v_1⟩ := num_Text.blk_two BK_v.out)
      | ((with_reducible refine gate_callee (f := 15) rfl ?_); refine goesL_ (some 8) rfl rfl Try.func15 (by kernel_rfl) rfl #[.agg #[.int .i64 2, .int .i64 n]] rfl (by (try simp only [List.map_toArray, List.map_cons, List.map_nil]); first | done | rfl) ?_; (with_reducible refine (num_Is.calls 2 n true _ h).mono ?_); rintro e w2_ ⟨rfl, hb⟩; refine ⟨_, rfl, ?_⟩; replace HB := Aside0.mk (below_step HB.out hb); replace BK_v := Aside0.mk (blk_below BK_v.out hb); clear hb; obtain ⟨hc_v_0, hc_v_1, hf_v_0, hf_v_1⟩ := num_Text.blk_two BK_v.out)
      | ((with_reducible refine gate_dst (N := 3) rfl ?_); refine box_event ?hgb3 (N := 3) ?hdb3 (cs := #[(.int .u8 0), (.int .u8 0), (.int .u8 0), (.int .u8 0), (.int .u8 0), (.int .u8 0), (.int .u8 0), (.int .u8 0), (.int .u8 0), (.int .u8 0), (.int .u8 0), (.int .u8 0), (.int .u8 0), (.int .u8 0), (.int .u8 0), (.int .u8 0), (.int .u8 0), (.int .u8 0), (.int .u8 0), (.int .u8 0), (.int .u8 0), (.int .u8 0), (.int .u8 0), (.int .u8 0)]) (t := 77) ?hrb3 ?_; (case hdb3 => rfl); (case hgb3 => rfl); (case hrb3 => first | (go_simp; done) | (go_simp; rfl)); intro g_b hg w3_ hbox hb; have z1_ := Aside0.mk hbox; have GE_b := Aside0.mk ((by rw [hg]; exact (below_size HB.out)) : w.heap.size ≤ g_b); have NE_v_b := Aside0.mk ((by rw [hg]; exact Nat.ne_of_lt (blk_lt BK_v.out)) : g_v ≠ g_b); replace HB := Aside0.mk (below_step HB.out hb); replace BK_v := Aside0.mk (blk_below BK_v.out hb); have BK_b := z1_; clear z1_ hb hbox hg; obtain ⟨hc_v_0, hc_v_1, hf_v_0, hf_v_1⟩ := num_Text.blk_two BK_v.out))
  go_loopg [4, 6] 20 (fun kq v4 v6 w' => ∃ (l : List Int) (m : Int) (q : Nat), v4 = .int .i64 q ∧ v6 = .int .u64 m ∧ q + l.length = 24 ∧ l.length + kq = 20 ∧ 0 ≤ m ∧ Aside0 (m < 18446744073709551616) ∧ Aside0 (m * 10 ^ l.length < 18446744073709551616) ∧ Aside0 (l = [] ∨ 1 ≤ m) ∧ Aside0 (num_Text.decL kq m l = num_Text.decL 20 (IntKind.u64.wrap n) []) ∧ Aside0 (w'.heap[g_v]? = some (.cells #[.int .i64 2, .int .i64 n] 23 (0, 0))) ∧ Aside0 (w'.heap[g_b]? = some (.cells (num_Text.buf l) 77 (0, 0))) ∧ Aside0 (Below w.heap.size w w'))
  case atStart => exact ⟨[], _, 24, rfl, rfl, by simp, by simp, (num_Text.u64_bd _).1, ⟨(num_Text.u64_bd _).2⟩, ⟨by rw [List.length_nil, Int.pow_zero, Int.mul_one]; exact (num_Text.u64_bd _).2⟩, ⟨.inl rfl⟩, ⟨rfl⟩, ⟨BK_v.out⟩, ⟨BK_b.out⟩, ⟨HB.out⟩⟩
  case round =>
    clear hc_v_0 hc_v_1 hf_v_0 hf_v_1 HB BK_v BK_b
    obtain ⟨l, m, q, rfl, rfl, hq, hl, hm, HM, HP, HO, HX, BK_v, BK_b, HB⟩ := hrel
    cases gk with
    | zero =>
      exfalso
      have h1 := HP.out
      have h2 := HO.out
      have hz : l.length = 20 := by omega
      rw [hz] at h1
      rcases h2 with h2 | h2
      · subst h2; simp at hz
      · exact num_Text.pow_end m h2 h1
    | succ k =>
      obtain ⟨q, rfl⟩ : ∃ z, q = z + 1 := ⟨q - 1, by omega⟩
      have hcb : wr.cell? ⟨g_b, q, none⟩ = some (.int .u8 0) := (blk_cell BK_b.out q).trans (num_Text.buf_at _ _ (by omega))
      have hfb := blk_frozen BK_b.out q
      have BK_w : Aside0 (∀ d, (wr.setCell ⟨g_b, q, none⟩ (.int .u8 d)).heap[g_b]? = some (.cells (num_Text.buf (d :: l)) 77 (0, 0))) := ⟨fun d => blk_put BK_b.out q _ (num_Text.buf_set l q _ (by omega))⟩
      have hdv := num_Text.div10 m hm HM.out
      by_cases hz : m / 10 = 0
      · have hzb : (m / 10 == 0) = true := beq_iff_eq.mpr hz
        have HX2 : Aside0 ((48 + m % 10) :: l = num_Text.decL 20 (IntKind.u64.wrap n) []) := ⟨by rw [← HX.out]; simp only [num_Text.decL]; rw [if_pos hz]⟩
        have HV : Aside0 ((wr.setCell ⟨g_b, q, none⟩ (.int .u8 (48 + m % 10))).heap[g_v]? = some (.cells #[.int .i64 2, .int .i64 n] 23 (0, 0))) := ⟨blk_far BK_v.out (blk_ne BK_v.out BK_b.out (by decide)) _⟩
        have hcn : (wr.setCell ⟨g_b, q, none⟩ (.int .u8 (48 + m % 10))).cell? ⟨g_v, 1, none⟩ = some (.int .i64 n) := (blk_cell HV.out 1).trans rfl
        have hct := num_Text.cut g_b q (by omega)
        have hcv := run_convert_bytes_arg (P := Try.prog) (wr.setCell ⟨g_b, q, none⟩ (.int .u8 (48 + m % 10))) 79 5 Try.underlying79 Try.underlying5 g_b q (24 - q) (24 - q) ((48 + m % 10) :: l) (by simp; omega) (fun i hi => (blk_cell (BK_w.out _) (q + i)).trans (num_Text.buf_read _ q (by simp; omega) i (by simp; omega))) 9 Try.underlying9
        clear hz
        go_wp2
        go_ret
        exact ⟨by rw [← HX2.out]; rfl, below_set HB.out GE_b.out⟩
      · have hzb : (m / 10 == 0) = false := beq_eq_false_iff_ne.mpr hz
        have HZ := Aside0.mk hz
        clear hz
        go_wp2
        go_roundg k
        case measure => omega
        case rel => exact ⟨(48 + m % 10) :: l, m / 10, q, (by go_num), rfl, (by simp; omega), (by simp; omega), (by omega), ⟨by have := HM.out; omega⟩, ⟨num_Text.pow_step m l.length hm HP.out⟩, ⟨.inr (by have := HZ.out; omega)⟩, ⟨by rw [← HX.out]; simp only [num_Text.decL]; rw [if_neg HZ.out]⟩, ⟨blk_far BK_v.out (blk_ne BK_v.out BK_b.out (by decide)) _⟩, ⟨BK_w.out _⟩, ⟨below_set HB.out GE_b.out⟩⟩

set_option maxHeartbeats 4000000 in
theorem num_Text.neg (n : Int) (w : World) (h : num_Is.f 2 n = some true) (hn : n < 0) :
    Calls Try.prog 32 #[.agg #[.int .i64 2, .int .i64 n]] w fun e w' => e = .returned (.string (strOfNums (45 :: num_Text.decL 20 (IntKind.u64.wrap (-(IntKind.u64.wrap n))) []))) ∧ Below w.heap.size w w' := by
  have HB := Aside0.mk (Below.refl w.heap.size w)
  have hu23 := Try.underlying23
  go_enter Try.func32, Try.ntmps32
  go_wp2_with (first
      | ((with_reducible refine gate_dst (N := 1) rfl ?_); refine box_event ?hgb1 (N := 1) ?hdb1 (cs := #[.int .i64 2, .int .i64 n]) (t := 23) ?hrb1 ?_; (case hdb1 => rfl); (case hgb1 => rfl); (case hrb1 => first | (go_simp; done) | (go_simp; rfl)); intro g_v hg w1_ hbox hb; have z1_ := Aside0.mk hbox; have GE_v := Aside0.mk ((by rw [hg]; exact (below_size HB.out)) : w.heap.size ≤ g_v); replace HB := Aside0.mk (below_step HB.out hb); have BK_v := z1_; clear z1_ hb hbox hg; obtain ⟨hc_v_0, hc_v_1, hf_v_0, hf_v_1⟩ := num_Text.blk_two BK_v.out)
      | ((with_reducible refine gate_callee (f := 15) rfl ?_); refine goesL_ (some 8) rfl rfl Try.func15 (by kernel_rfl) rfl #[.agg #[.int .i64 2, .int .i64 n]] rfl (by (try simp only [List.map_toArray, List.map_cons, List.map_nil]); first | done | rfl) ?_; (with_reducible refine (num_Is.calls 2 n true _ h).mono ?_); rintro e w2_ ⟨rfl, hb⟩; refine ⟨_, rfl, ?_⟩; replace HB := Aside0.mk (below_step HB.out hb); replace BK_v := Aside0.mk (blk_below BK_v.out hb); clear hb; obtain ⟨hc_v_0, hc_v_1, hf_v_0, hf_v_1⟩ := num_Text.blk_two BK_v.out)
      | ((with_reducible refine gate_dst (N := 3) rfl ?_); refine box_event ?hgb3 (N := 3) ?hdb3 (cs := #[(.int .u8 0), (.int .u8 0), (.int .u8 0), (.int .u8 0), (.int .u8 0), (.int .u8 0), (.int .u8 0), (.int .u8 0), (.int .u8 0), (.int .u8 0), (.int .u8 0), (.int .u8 0), (.int .u8 0), (.int .u8 0), (.int .u8 0), (.int .u8 0), (.int .u8 0), (.int .u8 0), (.int .u8 0), (.int .u8 0), (.int .u8 0), (.int .u8 0), (.int .u8 0), (.int .u8 0)]) (t := 77) ?hrb3 ?_; (case hdb3 => rfl); (case hgb3 => rfl); (case hrb3 => first | (go_simp; done) | (go_simp; rfl)); intro g_b hg w3_ hbox hb; have z1_ := Aside0.mk hbox; have GE_b := Aside0.mk ((by rw [hg]; exact (below_size HB.out)) : w.heap.size ≤ g_b); have NE_v_b := Aside0.mk ((by rw [hg]; exact Nat.ne_of_lt (blk_lt BK_v.out)) : g_v ≠ g_b); replace HB := Aside0.mk (below_step HB.out hb); replace BK_v := Aside0.mk (blk_below BK_v.out hb); have BK_b := z1_; clear z1_ hb hbox hg; obtain ⟨hc_v_0, hc_v_1, hf_v_0, hf_v_1⟩ := num_Text.blk_two BK_v.out))
  go_loopg [4, 6] 20 (fun kq v4 v6 w' => ∃ (l : List Int) (m : Int) (q : Nat), v4 = .int .i64 q ∧ v6 = .int .u64 m ∧ q + l.length = 24 ∧ l.length + kq = 20 ∧ 0 ≤ m ∧ Aside0 (m < 18446744073709551616) ∧ Aside0 (m * 10 ^ l.length < 18446744073709551616) ∧ Aside0 (l = [] ∨ 1 ≤ m) ∧ Aside0 (num_Text.decL kq m l = num_Text.decL 20 (IntKind.u64.wrap (-(IntKind.u64.wrap n))) []) ∧ Aside0 (w'.heap[g_v]? = some (.cells #[.int .i64 2, .int .i64 n] 23 (0, 0))) ∧ Aside0 (w'.heap[g_b]? = some (.cells (num_Text.buf l) 77 (0, 0))) ∧ Aside0 (Below w.heap.size w w'))
  case atStart => exact ⟨[], _, 24, rfl, rfl, by simp, by simp, (num_Text.u64_bd _).1, ⟨(num_Text.u64_bd _).2⟩, ⟨by rw [List.length_nil, Int.pow_zero, Int.mul_one]; exact (num_Text.u64_bd _).2⟩, ⟨.inl rfl⟩, ⟨rfl⟩, ⟨BK_v.out⟩, ⟨BK_b.out⟩, ⟨HB.out⟩⟩
  case round =>
    clear hc_v_0 hc_v_1 hf_v_0 hf_v_1 HB BK_v BK_b
    obtain ⟨l, m, q, rfl, rfl, hq, hl, hm, HM, HP, HO, HX, BK_v, BK_b, HB⟩ := hrel
    cases gk with
    | zero =>
      exfalso
      have h1 := HP.out
      have h2 := HO.out
      have hz : l.length = 20 := by omega
      rw [hz] at h1
      rcases h2 with h2 | h2
      · subst h2; simp at hz
      · exact num_Text.pow_end m h2 h1
    | succ k =>
      obtain ⟨q, rfl⟩ : ∃ z, q = z + 1 := ⟨q - 1, by omega⟩
      have hcb : wr.cell? ⟨g_b, q, none⟩ = some (.int .u8 0) := (blk_cell BK_b.out q).trans (num_Text.buf_at _ _ (by omega))
      have hfb := blk_frozen BK_b.out q
      have BK_w : Aside0 (∀ d, (wr.setCell ⟨g_b, q, none⟩ (.int .u8 d)).heap[g_b]? = some (.cells (num_Text.buf (d :: l)) 77 (0, 0))) := ⟨fun d => blk_put BK_b.out q _ (num_Text.buf_set l q _ (by omega))⟩
      have hdv := num_Text.div10 m hm HM.out
      by_cases hz : m / 10 = 0
      · have hzb : (m / 10 == 0) = true := beq_iff_eq.mpr hz
        have HX2 : Aside0 ((48 + m % 10) :: l = num_Text.decL 20 (IntKind.u64.wrap (-(IntKind.u64.wrap n))) []) := ⟨by rw [← HX.out]; simp only [num_Text.decL]; rw [if_pos hz]⟩
        have HV : Aside0 ((wr.setCell ⟨g_b, q, none⟩ (.int .u8 (48 + m % 10))).heap[g_v]? = some (.cells #[.int .i64 2, .int .i64 n] 23 (0, 0))) := ⟨blk_far BK_v.out (blk_ne BK_v.out BK_b.out (by decide)) _⟩
        have hcn : (wr.setCell ⟨g_b, q, none⟩ (.int .u8 (48 + m % 10))).cell? ⟨g_v, 1, none⟩ = some (.int .i64 n) := (blk_cell HV.out 1).trans rfl
        obtain ⟨r, rfl⟩ : ∃ z, q = z + 1 := ⟨q - 1, by omega⟩
        have hcb2 : (wr.setCell ⟨g_b, r + 1, none⟩ (.int .u8 (48 + m % 10))).cell? ⟨g_b, r, none⟩ = some (.int .u8 0) := (blk_cell (BK_w.out _) r).trans (num_Text.buf_at _ _ (by simp; omega))
        have hfb2 := blk_frozen (BK_w.out (48 + m % 10)) r
        have BK_z : Aside0 (((wr.setCell ⟨g_b, r + 1, none⟩ (.int .u8 (48 + m % 10))).setCell ⟨g_b, r, none⟩ (.int .u8 45)).heap[g_b]? = some (.cells (num_Text.buf (45 :: (48 + m % 10) :: l)) 77 (0, 0))) := ⟨blk_put (BK_w.out _) r _ (num_Text.buf_set _ r _ (by simp; omega))⟩
        have hct := num_Text.cut g_b r (by omega)
        have hcv := run_convert_bytes_arg (P := Try.prog) ((wr.setCell ⟨g_b, r + 1, none⟩ (.int .u8 (48 + m % 10))).setCell ⟨g_b, r, none⟩ (.int .u8 45)) 79 5 Try.underlying79 Try.underlying5 g_b r (24 - r) (24 - r) (45 :: (48 + m % 10) :: l) (by simp; omega) (fun i hi => (blk_cell BK_z.out (r + i)).trans (num_Text.buf_read _ r (by simp; omega) i (by simp; omega))) 9 Try.underlying9
        clear hz
        go_wp2
        go_ret
        exact ⟨by rw [← HX2.out]; rfl, below_set (below_set HB.out GE_b.out) GE_b.out⟩
      · have hzb : (m / 10 == 0) = false := beq_eq_false_iff_ne.mpr hz
        have HZ := Aside0.mk hz
        clear hz
        go_wp2
        go_roundg k
        case measure => omega
        case rel => exact ⟨(48 + m % 10) :: l, m / 10, q, (by go_num), rfl, (by simp; omega), (by simp; omega), (by omega), ⟨by have := HM.out; omega⟩, ⟨num_Text.pow_step m l.length hm HP.out⟩, ⟨.inr (by have := HZ.out; omega)⟩, ⟨by rw [← HX.out]; simp only [num_Text.decL]; rw [if_neg HZ.out]⟩, ⟨blk_far BK_v.out (blk_ne BK_v.out BK_b.out (by decide)) _⟩, ⟨BK_w.out _⟩, ⟨below_set HB.out GE_b.out⟩⟩

theorem num_Text.isnt (t n : Int) (w : World) (h : num_Is.f t n = some false) :
    Calls Try.prog 32 #[.agg #[.int .i64 t, .int .i64 n]] w fun e w' => e = .returned (.string ⟨#[]⟩) ∧ Below w.heap.size w w' := by
  have HB := Aside0.mk (Below.refl w.heap.size w)
  have hu23 := Try.underlying23
  go_enter Try.func32, Try.ntmps32
  go_wp2_with (first
      | ((with_reducible refine gate_dst (N := 1) rfl ?_); refine box_event ?hgb1 (N := 1) ?hdb1 (cs := #[.int .i64 t, .int .i64 n]) (t := 23) ?hrb1 ?_; (case hdb1 => rfl); (case hgb1 => rfl); (case hrb1 => first | (go_simp; done) | (go_simp; rfl)); intro g_v hg w1_ hbox hb; have z1_ := Aside0.mk hbox; have GE_v := Aside0.mk ((by rw [hg]; exact (below_size HB.out)) : w.heap.size ≤ g_v); replace HB := Aside0.mk (below_step HB.out hb); have BK_v := z1_; clear z1_ hb hbox hg; obtain ⟨hc_v_0, hc_v_1, hf_v_0, hf_v_1⟩ := num_Text.blk_two BK_v.out)
      | ((with_reducible refine gate_callee (f := 15) rfl ?_); refine goesL_ (some 8) rfl rfl Try.func15 (by kernel_rfl) rfl #[.agg #[.int .i64 t, .int .i64 n]] rfl (by (try simp only [List.map_toArray, List.map_cons, List.map_nil]); first | done | rfl) ?_; (with_reducible refine (num_Is.calls t n false _ h).mono ?_); rintro e w2_ ⟨rfl, hb⟩; refine ⟨_, rfl, ?_⟩; replace HB := Aside0.mk (below_step HB.out hb); replace BK_v := Aside0.mk (blk_below BK_v.out hb); clear hb; obtain ⟨hc_v_0, hc_v_1, hf_v_0, hf_v_1⟩ := num_Text.blk_two BK_v.out))
  go_ret
  exact ⟨rfl, HB.out⟩
theorem num_Text.calls (a0_0 : Int) (a0_1 : Int) (r : ByteArray) (w : World) (h : num_Text.f a0_0 a0_1 = some r) :
    Calls Try.prog 32 #[.agg #[.int .i64 a0_0, .int .i64 a0_1]] w fun e w' => e = .returned (.string r) ∧ Below w.heap.size w w' := by
  unfold num_Text.f at h
  obtain ⟨b, hb, h⟩ := Option.bind_eq_some_iff.mp h
  cases b with
  | false => simp at h; subst h; exact num_Text.isnt _ _ w hb
  | true =>
    simp at h; subst h
    unfold num_Text.s
    by_cases h3 : a0_0 = 3
    · subst h3; rw [if_pos rfl]; exact num_Text.hex _ w hb
    · have h2 : a0_0 = 2 := by
        unfold num_Is.f at hb
        rw [if_neg h3] at hb
        split at hb
        · assumption
        · simp at hb
      subst h2
      rw [if_neg h3]
      by_cases hn : a0_1 < 0
      · rw [if_pos hn]; exact num_Text.neg _ w hb hn
      · rw [if_neg hn]; exact num_Text.dec _ w hb (by omega)


end Go.Proofs.Yticnolkbmpmgcaa.QN
