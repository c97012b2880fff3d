/- The words of the language, Word and quoted, walked: what they hand back, at every string. -/
import Derived.Test.YtpemgladmnbfhaaDoorWWords
import Derived.WalkKit
import Derived.Deep.LoopGhost
import Derived.Deep.QuietTactic
import Derived.BigQuiet
import Derived.Deep.CutRange
import Derived.Test.YtpemgladmnbfhaaDoorShelf
import Derived.Test.YtpemgladmnbfhaaDoorMp
import Derived.WalkSpells
import Derived.StringKeys
import Derived.Lib.Strings
namespace Go.Proofs.YtpemgladmnbfhaaDoor.Wd
open Go.RowKit Go.Maps Go.Proofs.YtpemgladmnbfhaaDoor.Mp Go.Proofs.YtpemgladmnbfhaaDoorW.PrintWords
set_option linter.unusedVariables false
set_option linter.unusedSimpArgs false
/-- what the walk asks of the world: the library's table of blanks holds what its text lays -/
structure Gw (w : World) : Prop where mk :: (out : Lib.TabIs Tryd.prog w "strings.asciiSpace" .u8 Lib.asciiSpaceTab)
theorem glob0 : Tryd.prog.globalNamed "strings.asciiSpace" = some 0 := by kernel_rfl
theorem Gw.block {w : World} (h : Gw w) : 0 < w.heap.size := by
  have h0 := h.out
  unfold Lib.TabIs World.var? at h0
  rw [glob0] at h0
  simp only [Option.bind_some] at h0
  by_cases z : 0 < w.heap.size
  · exact z
  · have : w.heap[0]? = none := Array.getElem?_eq_none (by omega)
    rw [this] at h0; cases h0
theorem Gw.below {w w' : World} (h : Gw w) (hb : Below w.heap.size w w') : Gw w' := by
  refine ⟨?_⟩
  have h0 := h.out
  unfold Lib.TabIs at h0 ⊢
  rw [← h0]
  unfold World.var?
  rw [glob0]
  simp only [Option.bind_some]
  rw [hb.block 0 h.block]
theorem Gw.alloc {w : World} (h : Gw w) (o : Obj) : Gw (w.alloc o) := h.below ((Below.refl _ _).alloc (Nat.le_refl _) o)
theorem Gw.drewN {w : World} (h : Gw w) (n : Nat) : Gw (w.drewN n) := h.below (Go.Proofs.YtpemgladmnbfhaaDoorW.PrintWords.Drawn0.below ⟨⟨n, rfl⟩⟩)
def theWords : List ByteArray := [⟨#[97, 110, 100]⟩, ⟨#[98, 114, 101, 97, 107]⟩, ⟨#[100, 111]⟩, ⟨#[101, 108, 115, 101]⟩, ⟨#[101, 108, 115, 101, 105, 102]⟩, ⟨#[101, 110, 100]⟩, ⟨#[102, 97, 108, 115, 101]⟩, ⟨#[102, 111, 114]⟩, ⟨#[102, 117, 110, 99, 116, 105, 111, 110]⟩, ⟨#[105, 102]⟩, ⟨#[108, 111, 99, 97, 108]⟩, ⟨#[110, 105, 108]⟩, ⟨#[110, 111, 116]⟩, ⟨#[111, 114]⟩, ⟨#[114, 101, 116, 117, 114, 110]⟩, ⟨#[116, 104, 101, 110]⟩, ⟨#[116, 114, 117, 101]⟩, ⟨#[119, 104, 105, 108, 101]⟩]
def wordsText : ByteArray := ⟨((theWords.map (·.data.toList)).intersperse [32]).flatten.toArray⟩
theorem words_fields : Lib.fields wordsText.data.toList = theWords.map (·.data.toList) := by decide +kernel
theorem words_len : theWords.length = 18 := rfl
theorem words_ascii : ∀ (j : Nat) b, wordsText.data.toList[j]? = some b → b.toNat < 128 := by
  intro j b h
  have : ∀ b ∈ wordsText.data.toList, b.toNat < 128 := by decide +kernel
  exact this b (List.mem_of_getElem? h)
theorem words_text : wordsText = ⟨#[97, 110, 100, 32, 98, 114, 101, 97, 107, 32, 100, 111, 32, 101, 108, 115, 101, 32, 101, 108, 115, 101, 105, 102, 32, 101, 110, 100, 32, 102, 97, 108, 115, 101, 32, 102, 111, 114, 32, 102, 117, 110, 99, 116, 105, 111, 110, 32, 105, 102, 32, 108, 111, 99, 97, 108, 32, 110, 105, 108, 32, 110, 111, 116, 32, 111, 114, 32, 114, 101, 116, 117, 114, 110, 32, 116, 104, 101, 110, 32, 116, 114, 117, 101, 32, 119, 104, 105, 108, 101]⟩ := by decide +kernel
/-- strings.Fields at the words' text -/
theorem fields_words (w : World) (hG : Gw w) : Calls Tryd.prog 50 #[.string ⟨#[97, 110, 100, 32, 98, 114, 101, 97, 107, 32, 100, 111, 32, 101, 108, 115, 101, 32, 101, 108, 115, 101, 105, 102, 32, 101, 110, 100, 32, 102, 97, 108, 115, 101, 32, 102, 111, 114, 32, 102, 117, 110, 99, 116, 105, 111, 110, 32, 105, 102, 32, 108, 111, 99, 97, 108, 32, 110, 105, 108, 32, 110, 111, 116, 32, 111, 114, 32, 114, 101, 116, 117, 114, 110, 32, 116, 104, 101, 110, 32, 116, 114, 117, 101, 32, 119, 104, 105, 108, 101]⟩] w fun e w' =>
    e = .returned (.slice (some ⟨w.heap.size, 0, none⟩) 18 18) ∧ w' = w.alloc (.cells (theWords.map Value.string).toArray 9) := by
  have h := Tryd.strings_Fields wordsText w (by decide +kernel) words_ascii hG.out
  rw [words_fields] at h
  rw [← words_text]
  refine h.mono fun e w' ⟨he, hw⟩ => ⟨?_, ?_⟩
  · rw [he]; rfl
  · rw [hw]; rfl
theorem setKeyed : Keyed Tryd.prog 9 := string_keyed Tryd.underlying9
/-- what the first k words leave in the map -/
noncomputable def wordMap : Nat → Value → Option Value
  | 0 => fun _ => none
  | k + 1 => put (wordMap k) (.string (theWords.getD k ⟨#[]⟩)) (.bool true)
theorem words_small (k : Nat) : (theWords.getD k ⟨#[]⟩).size ≤ maxLen := by
  have h : ∀ x ∈ theWords, x.size ≤ 100 := by decide +kernel
  by_cases c : k < theWords.length
  · have := h (theWords.getD k ⟨#[]⟩) (by simp only [List.getD, List.getElem?_eq_getElem c, Option.getD_some]; exact List.getElem_mem c)
    unfold maxLen; omega
  · simp only [List.getD, List.getElem?_eq_none (Nat.le_of_not_lt c), Option.getD_none]; unfold maxLen; decide
set_option maxHeartbeats 8000000 in
set_option maxRecDepth 100000 in
theorem words_walk (w : World) (hG : Gw w) :
    Calls Tryd.prog 24 #[] w fun e w' => ∃ b, e = .returned (.map (some b)) ∧ MapIs w' Tryd.prog 9 b (wordMap 18) ∧ Below w.heap.size w w' := by
  have hmm := @run_makeMap Tryd.prog
  have hF := fields_words _ (hG.alloc (.map #[] 0))
  have HM := Aside0.mk (MapIs.made (P := Tryd.prog) w 9)
  go_enter Tryd.func24, Tryd.ntmps24
  go_wp2_with (go_at_call 50; (with_reducible refine hF.mono ?_); rintro e w' ⟨rfl, rfl⟩)
  have HB : Aside0 (Below w.heap.size w ((w.alloc (.map #[] 0)).alloc (.cells (theWords.map Value.string).toArray 9))) := ⟨((Below.refl _ _).alloc (Nat.le_refl _) _).alloc (by simp) _⟩
  have HC : Aside0 (((w.alloc (.map #[] 0)).alloc (.cells (theWords.map Value.string).toArray 9)).heap[w.heap.size + 1]? = some (.cells (theWords.map Value.string).toArray 9 (0, 0))) := ⟨by
    show ((w.heap.push (.map #[] 0)).push _)[w.heap.size + 1]? = _
    have e : w.heap.size + 1 = (w.heap.push (.map #[] 0)).size := by simp
    rw [e, Array.getElem?_push_size]⟩
  have HM2 : Aside0 (MapIs ((w.alloc (.map #[] 0)).alloc (.cells (theWords.map Value.string).toArray 9)) Tryd.prog 9 w.heap.size (wordMap 0)) := ⟨HM.out.kept (by
    show ((w.heap.push _).push _)[w.heap.size]? = (w.heap.push _)[w.heap.size]?
    simp [Array.getElem?_push])⟩
  clear HM hF hG
  go_loopg [7] 18 (fun g v7 w' => ∃ k : Nat, v7 = .int .i64 (k : Int) ∧ Aside0 (k ≤ 18 ∧ 18 - k ≤ g) ∧ Aside0 (MapIs w' Tryd.prog 9 w.heap.size (wordMap k)) ∧ Aside0 (w'.heap[w.heap.size + 1]? = some (.cells (theWords.map Value.string).toArray 9 (0, 0))) ∧ Aside0 (Below w.heap.size w w'))
  case atStart => exact ⟨0, rfl, ⟨by omega, by omega⟩, HM2, HC, HB⟩
  case round =>
    clear HM2 HC HB
    obtain ⟨k, rfl, HK, HM, HC, HB⟩ := hrel
    obtain ⟨hk1, hk2⟩ := HK.out
    clear HK
    by_cases hlt : k < 18
    · have hc := (blk_cell HC.out k).trans (show (theWords.map Value.string).toArray[k]? = some (.string (theWords.getD k ⟨#[]⟩)) by
        have : k < theWords.length := hlt
        simp [List.getElem?_eq_getElem this])
      have hsz : (theWords.getD k ⟨#[]⟩).size ≤ maxLen := words_small k
      obtain ⟨x, hx⟩ : ∃ x, theWords.getD k ⟨#[]⟩ = x := ⟨_, rfl⟩
      have HN : Aside0 (wordMap (k + 1) = put (wordMap k) (.string x) (.bool true)) := ⟨by rw [wordMap, hx]⟩
      rw [hx] at hc hsz
      clear hx
      have HS := Aside0.mk hsz
      clear hsz hk1
      go_wp2_with (refine wp_update rfl (.tmp 11) (.tmp 12) (.const (.bool true)) 53 (.inl rfl) setKeyed Tryd.underlying53 rfl HM.out (key := .string _) (val := .bool true) rfl rfl (Go.WideMaps.keyOf_string_mk Tryd.underlying9 HS.out) ?_; intro w1 hown' hu; have HM2 := Aside0.mk hown'; have HC2 := Aside0.mk ((hu.block (w.heap.size + 1) (by omega)).trans HC.out); have HB2 := Aside0.mk (hu.below HB.out (Nat.le_refl _)); clear hown' hu HM HC HB)
      go_roundg (gk - 1)
      case measure => omega
      case rel => exact ⟨k + 1, by go_num, ⟨by omega, by omega⟩, by rw [HN.out]; exact HM2, HC2, HB2⟩
    · obtain rfl : k = 18 := by omega
      go_wp2
      go_ret
      exact ⟨_, rfl, HM.out, HB.out⟩
theorem MapIs.look {w : World} {P : Program} {k e t : TypeId} {b : Nat} {m : Value → Option Value} (h : MapIs w P k b m) (K : Keyed P k) (ht : P.underlying t = some (.map k e)) {z : Value} (hz : ∀ w, (zeroValue e).run P w = .ok z w) {key : Value} {l : Lit} (hkey : keyOf P k key = some l) :
    (Instr.lookup t (.map (some b)) key false).run P w = .ok ((m key).getD z) w := by
  obtain ⟨es, c, hb, hk, hp, hm⟩ := h.ex
  have hc := K.check w es.isEmpty hkey
  rcases K.find w hkey es.toList hk with ⟨hf, hn⟩ | ⟨j, e', hf, hj, he⟩
  · have e0 : m key = none := by
      cases hv : m key with
      | none => rfl
      | some v => obtain ⟨x, hx, hx1, _⟩ := (hm key v).1 hv; exact absurd hx1 (hn x hx)
    rw [e0]
    simp [Instr.lookup, run_underlying ht, MapKept.run_getObj_map hb, hc, hf, Result.andThen, hz]
  · have e0 : m key = some e'.val := (hm key e'.val).2 ⟨e', List.mem_of_getElem? hj, he, rfl⟩
    rw [e0]
    simp [Instr.lookup, run_underlying ht, MapKept.run_getObj_map hb, hc, hf, Result.andThen]
theorem wp_look {P : Program} {w : World} {ops : Array Oper} {rest : List Oper} {o : Oper} {a : Act} {Q : Exit → Act → World → Prop} (hg : o.guard = none) (m x : Operand) (t : TypeId) (hop : o.op = Op.lookup t m x false)
    {k e : TypeId} (K : Keyed P k) (ht : P.underlying t = some (.map k e)) {z : Value} (hz : ∀ w, (zeroValue e).run P w = .ok z w) {b : Nat} {f : Value → Option Value} (hm : a.eval m = .map (some b)) (hown : MapIs w P k b f) {key : Value} {kl : Lit} (hx : a.eval x = key) (hkey : keyOf P k key = some kl)
    (hK : wpList P ops Q rest (a.put o.dst ((f key).getD z)) w) :
    wpList P ops Q (o :: rest) a w := by
  refine wpList_plain hg fun K' hK' => ?_
  have hrun := MapIs.look hown K ht hz hkey
  unfold Oper.wp
  simp [execOp, hop, hm, hx, hrun, Result.andThen]
  exact hK' _ _ hK
theorem wordMap_at (s : ByteArray) : ∀ k, k ≤ 18 → (wordMap k (.string s)).getD (.bool false) = .bool (decide (s.data.toList ∈ (theWords.take k).map (·.data.toList)))
  | 0, _ => by simp [wordMap]
  | k + 1, hk => by
    have ih := wordMap_at s k (by omega)
    have hl : k < theWords.length := by rw [words_len]; omega
    have e : theWords.take (k + 1) = theWords.take k ++ [theWords[k]] := by rw [List.take_succ_eq_append_getElem hl]
    have e2 : theWords.getD k ⟨#[]⟩ = theWords[k] := by simp only [List.getD, List.getElem?_eq_getElem hl, Option.getD_some]
    rw [wordMap, e, e2]
    by_cases c : s = theWords[k]
    · subst c
      rw [put_same]
      show Value.bool true = _
      rw [decide_eq_true]
      rw [List.map_append]
      exact List.mem_append_right _ (List.mem_singleton.2 rfl)
    · have c2 : s.data.toList ≠ theWords[k].data.toList := fun h => c (ByteArray.ext (Array.toList_inj.mp h))
      rw [put_ne (fun h => c (by injection h)), ih]
      congr 1
      rw [Bool.eq_iff_iff]
      simp only [decide_eq_true_eq, List.map_append, List.mem_append, List.map_cons, List.map_nil, List.mem_singleton]
      exact ⟨.inl, fun h => h.resolve_right c2⟩
def isWord (s : ByteArray) : Bool := decide (s.data.toList ∈ theWords.map (·.data.toList))
theorem wordMap_all (s : ByteArray) : (wordMap 18 (.string s)).getD (.bool false) = .bool (isWord s) := by
  rw [wordMap_at s 18 (Nat.le_refl _), List.take_of_length_le (by rw [words_len]; omega), isWord]
theorem zero4 (w : World) : (zeroValue 4).run Tryd.prog w = .ok (.bool false) w := by kernel_rfl
set_option maxHeartbeats 8000000 in
theorem word_walk (s : ByteArray) (hs : s.size ≤ maxLen) (w : World) (hG : Gw w) :
    Calls Tryd.prog 17 #[.string s] w fun e w' => e = .returned (.bool (isWord s)) ∧ Below w.heap.size w w' := by
  have C := words_walk w hG
  have HS := Aside0.mk hs
  have hz := Aside0.mk zero4
  clear hG hs
  go_enter Tryd.func17, Tryd.ntmps17
  go_wp2_with (first | (go_at_call 24; (with_reducible refine C.mono ?_); rintro e w' ⟨b, rfl, HM, HB⟩; have HM := Aside0.mk HM; have HB := Aside0.mk HB) | (refine wp_look rfl (.tmp 3) (.tmp 4) 53 rfl setKeyed Tryd.underlying53 hz.out rfl HM.out (key := .string s) rfl (Go.WideMaps.keyOf_string_mk Tryd.underlying9 HS.out) ?_; rw [wordMap_all]))
  go_ret
  exact ⟨rfl, HB.out⟩
theorem indexByte_lt : ∀ (l : List UInt8) (c : UInt8), Lib.indexByte l c < l.length
  | [], _ => by simp [Lib.indexByte]
  | b :: l, c => by
    have := indexByte_lt l c
    unfold Lib.indexByte
    by_cases h : (b == c) = true
    · rw [if_pos h]; simp only [List.length_cons]; omega
    · rw [if_neg h]
      by_cases h2 : (Lib.indexByte l c == -1) = true
      · rw [if_pos h2]; simp only [List.length_cons]; omega
      · rw [if_neg h2]; simp only [List.length_cons]; omega
theorem quoted_le (s : ByteArray) : Lib.indexByte (s.extract 1 s.size).data.toList 34 ≤ s.size := by
  have h := indexByte_lt (s.extract 1 s.size).data.toList 34
  have e : (s.extract 1 s.size).data.toList.length ≤ s.size := by
    rw [Lib.extract_data, List.length_take, List.length_drop, Array.length_toList, ByteArray.size_data]; omega
  omega
set_option maxHeartbeats 8000000 in
theorem quoted_none (s : ByteArray) (hs : 1 ≤ s.size) (w : World) (h : Lib.indexByte (s.extract 1 s.size).data.toList 34 < 0) :
    Calls Tryd.prog 34 #[.string s] w fun e w' => e = .returned (.int .i64 1) ∧ Drawn0 w w' := by
  have e34 : (34 : Int).toNat.toUInt8 = 34 := rfl
  have C := Tryd.strings_IndexByte (s.extract 1 s.size) 34 w
  rw [e34] at C
  obtain ⟨k, hk⟩ : ∃ k, Lib.indexByte (s.extract 1 s.size).data.toList 34 = k := ⟨_, rfl⟩
  rw [hk] at C h
  clear hk e34
  go_enter Tryd.func34, Tryd.ntmps34
  go_wp2_with (first | (go_at_call 38; (with_reducible refine C.mono ?_); rintro e w' ⟨rfl, rfl⟩))
  go_ret
  exact ⟨rfl, Drawn0.refl _⟩
set_option maxHeartbeats 8000000 in
theorem quoted_some (s : ByteArray) (hs : 1 ≤ s.size) (hs2 : s.size ≤ 140737488351232) (w : World) (h : 0 ≤ Lib.indexByte (s.extract 1 s.size).data.toList 34) (h2 : Lib.indexByte (s.extract 1 s.size).data.toList 34 ≤ s.size) :
    Calls Tryd.prog 34 #[.string s] w fun e w' => e = .returned (.int .i64 (Lib.indexByte (s.extract 1 s.size).data.toList 34 + 2)) ∧ Drawn0 w w' := by
  have e34 : (34 : Int).toNat.toUInt8 = 34 := rfl
  have C := Tryd.strings_IndexByte (s.extract 1 s.size) 34 w
  rw [e34] at C
  obtain ⟨k, hk⟩ : ∃ k, Lib.indexByte (s.extract 1 s.size).data.toList 34 = k := ⟨_, rfl⟩
  rw [hk] at C h h2 ⊢
  clear hk e34
  go_enter Tryd.func34, Tryd.ntmps34
  go_wp2_with (first | (go_at_call 38; (with_reducible refine C.mono ?_); rintro e w' ⟨rfl, rfl⟩))
  go_ret
  exact ⟨rfl, Drawn0.refl _⟩
end Go.Proofs.YtpemgladmnbfhaaDoor.Wd
