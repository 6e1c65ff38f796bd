/-
  What is proved: plain facts on the texts of bonds: a text is that of a valid bond just where it has no problems, and then the bond is the one that is read off its words. No program in sight. No conditions.
-/
import Derived.Test.YtgobpleckeeheaaDoorBondText
import Derived.Test.YtgobpleckeeheaaDoorSplitW
namespace Go.Proofs.YtgobpleckeeheaaDoor
open Go.RowKit Go.PlainAid
set_option linter.unusedVariables false

def courseOfL (w : List UInt8) : Course := if (Lib.cut w [43]).2.2 = true then ⟨ba (Lib.cut w [43]).1, ba (Lib.cut w [43]).2.1⟩ else ⟨⟨#[]⟩, ba w⟩
def courseL (c : Course) : List UInt8 := (if c.lead.size = 0 then [] else c.lead.data.toList ++ [43]) ++ c.cycle.data.toList
def kindL (w : List UInt8) : Int :=
  if 1 < w.count 43 ∨ pieceB (courseOfL w).lead = false ∨ plainB (courseOfL w).cycle = false then 3
  else if (courseOfL w).cycle.size = 0 ∨ (w.count 43 = 1 ∧ (courseOfL w).lead.size = 0) then 4
  else if 6 < (courseOfL w).lead.size ∨ 8 < (courseOfL w).cycle.size then 5 else 0
theorem ba_size (l : List UInt8) : (ba l).size = l.length := by simp [ba, ByteArray.size]
theorem data_size (s : ByteArray) : s.data.toList.length = s.size := by simp
theorem ba_empty {s : ByteArray} (h : s.size = 0) : s.data.toList = [] := List.eq_nil_of_length_eq_zero (by rw [data_size]; exact h)
/-- The bytes of a text of pieces. -/
theorem only_mem {f : Int → Bool} {s : ByteArray} (h : onlyB f s = true) {b : UInt8} (hb : b ∈ s.data.toList) : f (b.toNat : Int) = true := by
  obtain ⟨i, hi, rfl⟩ := List.getElem_of_mem hb
  have hs : i < s.size := by simpa using hi
  have := of_decide_eq_true h i hs
  rw [bt_list hs] at this
  exact this
theorem piece_no {s : ByteArray} {c : UInt8} (h : pieceB s = true) (hc : pcC (c.toNat : Int) = false) : c ∉ s.data.toList := fun hm => by
  rw [only_mem h hm] at hc
  cases hc
theorem plain_no {s : ByteArray} {c : UInt8} (h : plainB s = true) (hc : plC (c.toNat : Int) = false) : c ∉ s.data.toList := fun hm => by
  rw [only_mem h hm] at hc
  cases hc
theorem course_plus {c : Course} (h : c.ok = true) : (43 : UInt8) ∉ c.lead.data.toList ∧ (43 : UInt8) ∉ c.cycle.data.toList := by
  obtain ⟨-, h1, -, h3⟩ := course_split (x := c.lead) (y := c.cycle) h
  exact ⟨piece_no h1 (by decide), plain_no h3 (by decide)⟩
theorem course_blank {c : Course} (h : c.ok = true) : (32 : UInt8) ∉ courseL c := by
  obtain ⟨-, h1, -, h3⟩ := course_split (x := c.lead) (y := c.cycle) h
  have hl := piece_no (c := 32) h1 (by decide)
  have hy := plain_no (c := 32) h3 (by decide)
  unfold courseL
  split
  · simpa using hy
  · simp [hl, hy]
theorem name_blank {s : ByteArray} (h : nameB s = true) : (32 : UInt8) ∉ s.data.toList := fun hm => by
  obtain ⟨i, hi, e⟩ := List.getElem_of_mem hm
  have hs : i < s.size := by simpa using hi
  have := (of_decide_eq_true h).2.2.2.2 i hs
  rw [bt_list hs, e] at this
  revert this
  decide
theorem course_read {c : Course} (h : c.ok = true) : courseOfL (courseL c) = c := by
  obtain ⟨hl, hy⟩ := course_plus h
  unfold courseOfL courseL
  by_cases he : c.lead.size = 0
  · rw [if_pos he, List.nil_append, cut_none hy, if_neg (by simp), ba_of]
    obtain ⟨x, y⟩ := c
    have : x = ⟨#[]⟩ := empty_of he
    rw [this]
  · rw [if_neg he, List.append_assoc, List.singleton_append, cut_hit hl, if_pos rfl, ba_of, ba_of]
theorem course_count {c : Course} (h : c.ok = true) : (courseL c).count 43 = if c.lead.size = 0 then 0 else 1 := by
  obtain ⟨hl, hy⟩ := course_plus h
  unfold courseL
  split
  · rw [List.nil_append]
    exact List.count_eq_zero_of_not_mem hy
  · rw [List.count_append, List.count_append, List.count_eq_zero_of_not_mem hl, List.count_eq_zero_of_not_mem hy]
    rfl
theorem kind_zero {w : List UInt8} : kindL w = 0 ↔ (courseOfL w).ok = true ∧ courseL (courseOfL w) = w := by
  constructor
  · intro h
    unfold kindL at h
    by_cases h1 : 1 < w.count 43 ∨ pieceB (courseOfL w).lead = false ∨ plainB (courseOfL w).cycle = false
    · rw [if_pos h1] at h; omega
    rw [if_neg h1] at h
    by_cases h2 : (courseOfL w).cycle.size = 0 ∨ (w.count 43 = 1 ∧ (courseOfL w).lead.size = 0)
    · rw [if_pos h2] at h; omega
    rw [if_neg h2] at h
    by_cases h3 : 6 < (courseOfL w).lead.size ∨ 8 < (courseOfL w).cycle.size
    · rw [if_pos h3] at h; omega
    have c1 : ¬ 1 < w.count 43 := fun q => h1 (.inl q)
    have c2 : pieceB (courseOfL w).lead = true := by
      cases hp : pieceB (courseOfL w).lead with
      | true => rfl
      | false => exact absurd (.inr (.inl hp)) h1
    have c3 : plainB (courseOfL w).cycle = true := by
      cases hp : plainB (courseOfL w).cycle with
      | true => rfl
      | false => exact absurd (.inr (.inr hp)) h1
    refine ⟨course_yes (x := (courseOfL w).lead) (y := (courseOfL w).cycle) (by omega) c2 ⟨by omega, by omega⟩ c3, ?_⟩
    by_cases hm : (43 : UInt8) ∈ w
    · obtain ⟨a, b, rfl, ha, -⟩ : ∃ a b, w = a ++ 43 :: b ∧ (43 : UInt8) ∉ a ∧ Lib.index w [43] = (a.length : Int) := by
        rcases spl_cases 43 w with ⟨q, -⟩ | q
        · exact absurd hm q
        · exact q
      have hc : (a ++ 43 :: b).count 43 = 1 := by
        have := List.count_pos_iff.2 hm
        omega
      have e : courseOfL (a ++ 43 :: b) = ⟨ba a, ba b⟩ := by
        unfold courseOfL
        rw [cut_hit ha, if_pos rfl]
      rw [e] at h2 ⊢
      have hn : ¬ (ba a).size = 0 := fun q => h2 (.inr ⟨hc, q⟩)
      unfold courseL
      rw [if_neg hn, ba_data, ba_data]
      simp
    · have e : courseOfL w = ⟨⟨#[]⟩, ba w⟩ := by
        unfold courseOfL
        rw [cut_none hm, if_neg (by simp)]
      rw [e]
      unfold courseL
      rw [if_pos (show (⟨⟨#[]⟩, ba w⟩ : Course).lead.size = 0 from rfl), List.nil_append]
      exact ba_data w
  · rintro ⟨h, e⟩
    have hc := course_count h
    rw [e] at hc
    obtain ⟨h0, h1, h2, h3⟩ := course_split (x := (courseOfL w).lead) (y := (courseOfL w).cycle) h
    unfold kindL
    rw [if_neg, if_neg, if_neg]
    · omega
    · rintro (q | ⟨q, q2⟩)
      · omega
      · rw [if_pos q2] at hc
        omega
    · rintro (q | q | q)
      · split at hc <;> omega
      · rw [h1] at q; cases q
      · rw [h3] at q; cases q
/-- The bytes of the text of a bond. -/
theorem steps_data : ∀ (zs : List Course) (s : ByteArray), (zs.foldl stepT s).data.toList = s.data.toList ++ zs.flatMap fun c => 32 :: courseL c
  | [], s => by simp
  | c :: zs, s => by
    rw [List.foldl_cons, steps_data zs, List.flatMap_cons, ← List.append_assoc]
    congr 1
    unfold stepT courseL
    split
    · simp [ByteArray.data_append]
    · simp [ByteArray.data_append]
theorem inter_flat : ∀ (w : List UInt8) (ws : List (List UInt8)), [32].intercalate (w :: ws) = w ++ ws.flatMap fun v => 32 :: v
  | w, [] => by rw [inter_one]; simp
  | w, v :: ws => by
    rw [inter_cons, inter_flat v ws]
    simp
theorem text_inter (s : ByteArray) (zs : List Course) : (zs.foldl stepT s).data.toList = [32].intercalate (s.data.toList :: zs.map courseL) := by
  rw [steps_data, inter_flat]
  congr 1
  rw [List.flatMap_map]
def badAt (ws : List (List UInt8)) (i : Nat) : Int :=
  if i = 0 then (if ws.length = 1 then 1 else if nameB (ba (ws.headD [])) = true then 0 else 2) else if 8 < i then 6 else kindL ((ws[i]?).getD [])
def noBad (ws : List (List UInt8)) : Prop := ∀ i, i < ws.length → badAt ws i = 0
def coursesL (ws : List (List UInt8)) : List Course := (ws.drop 1).map courseOfL
theorem noBad_of {s : ByteArray} {zs : List Course} (h : bondOk s zs = true) : noBad (s.data.toList :: zs.map courseL) := by
  have hl := bond_len' h
  intro i hi
  rw [List.length_cons, List.length_map] at hi
  unfold badAt
  by_cases h0 : i = 0
  · rw [if_pos h0, List.length_cons, List.length_map, if_neg (by omega), if_pos]
    show nameB (ba s.data.toList) = true
    rw [ba_of]
    exact bond_name h
  · rw [if_neg h0, if_neg (by omega)]
    obtain ⟨j, rfl⟩ : ∃ j, i = j + 1 := ⟨i - 1, by omega⟩
    have hj : j < zs.length := by omega
    have hok : (zs[j]).ok = true := bond_at h (List.getElem?_eq_getElem hj)
    rw [List.getElem?_cons_succ, List.getElem?_map, List.getElem?_eq_getElem hj]
    show kindL (courseL zs[j]) = 0
    rw [kind_zero, course_read hok]
    exact ⟨hok, rfl⟩
theorem words_of {s : ByteArray} {zs : List Course} (h : bondOk s zs = true) : spl 32 (zs.foldl stepT s).data.toList = s.data.toList :: zs.map courseL := by
  rw [text_inter]
  refine spl_of_join (List.cons_ne_nil _ _) (fun w hw => ?_)
  rcases List.mem_cons.1 hw with rfl | hw
  · exact name_blank (bond_name h)
  · obtain ⟨c, hc, rfl⟩ := List.mem_map.1 hw
    obtain ⟨i, hi, rfl⟩ := List.getElem_of_mem hc
    exact course_blank (bond_at h (List.getElem?_eq_getElem hi))
theorem map_read : ∀ {ws : List (List UInt8)}, (∀ w ∈ ws, kindL w = 0) → (ws.map courseOfL).map courseL = ws
  | [], _ => rfl
  | w :: ws, h => by
    rw [List.map_cons, List.map_cons, map_read (fun v hv => h v (List.mem_cons_of_mem _ hv)), (kind_zero.1 (h w (List.mem_cons_self ..))).2]
/-- A text without problems is that of the bond of its words. -/
theorem text_of_words {t : ByteArray} (h : noBad (spl 32 t.data.toList)) : bondOk (ba ((spl 32 t.data.toList).headD [])) (coursesL (spl 32 t.data.toList)) = true ∧ (coursesL (spl 32 t.data.toList)).foldl stepT (ba ((spl 32 t.data.toList).headD [])) = t := by
  obtain ⟨w, ws, hw⟩ : ∃ w ws, spl 32 t.data.toList = w :: ws := by
    cases hs : spl 32 t.data.toList with
    | nil => exact absurd hs (spl_ne _ _)
    | cons w ws => exact ⟨w, ws, rfl⟩
  rw [hw] at h ⊢
  have h0 := h 0 (by simp)
  unfold badAt at h0
  rw [if_pos rfl] at h0
  have hn : ws.length ≠ 0 := fun q => by
    rw [if_pos (by rw [List.length_cons, q])] at h0
    omega
  rw [if_neg (by rw [List.length_cons]; omega)] at h0
  have hname : nameB (ba w) = true := by
    cases hq : nameB (ba w) with
    | true => rfl
    | false =>
      rw [if_neg (by rw [List.headD_cons, hq]; simp)] at h0
      omega
  have h8 : ws.length ≤ 8 := by
    rcases Nat.lt_or_ge 8 ws.length with q | q
    · have := h 9 (by rw [List.length_cons]; omega)
      unfold badAt at this
      rw [if_neg (by omega), if_pos (by omega)] at this
      omega
    · exact q
  have hk : ∀ v ∈ ws, kindL v = 0 := fun v hv => by
    obtain ⟨i, hi, rfl⟩ := List.getElem_of_mem hv
    have := h (i + 1) (by rw [List.length_cons]; omega)
    unfold badAt at this
    rw [if_neg (by omega), if_neg (by omega), List.getElem?_cons_succ, List.getElem?_eq_getElem hi] at this
    exact this
  have hm := map_read hk
  have e : coursesL (w :: ws) = ws.map courseOfL := rfl
  rw [e, List.headD_cons]
  constructor
  · unfold bondOk
    rw [hname, decide_eq_true (by rw [List.length_map]; omega), Bool.true_and, Bool.true_and, List.all_eq_true]
    intro c hc
    obtain ⟨v, hv, rfl⟩ := List.mem_map.1 hc
    exact (kind_zero.1 (hk v hv)).1
  · have h1 := text_inter (ba w) (ws.map courseOfL)
    rw [hm, ba_data, ← hw, spl_join] at h1
    rw [← ba_of t, ← h1, ba_of]
theorem noBad_few {ws : List (List UInt8)} (h : noBad ws) : ws.length ≤ 9 := by
  rcases Nat.lt_or_ge 9 ws.length with q | q
  · have := h 9 q
    unfold badAt at this
    rw [if_neg (by omega), if_pos (by omega)] at this
    omega
  · exact q
theorem noBad_two {ws : List (List UInt8)} (hne : ws ≠ []) (h : noBad ws) : 2 ≤ ws.length := by
  have hp := List.length_pos_iff.2 hne
  have := h 0 hp
  unfold badAt at this
  rw [if_pos rfl] at this
  rcases Nat.lt_or_ge 1 ws.length with q | q
  · exact q
  · rw [if_pos (by omega)] at this
    omega
/-- What is read off the library's cut into ten parts at most is the text's bond just where the text has no problems. -/
theorem read_iff (t : ByteArray) : (¬ t.size = 0 ∧ textB (ba ((Lib.splitK [32] 0 9 t.data.toList).headD [])) (coursesL (Lib.splitK [32] 0 9 t.data.toList)) = t) ↔ noBad (spl 32 t.data.toList) := by
  constructor
  · rintro ⟨hne, h⟩
    unfold textB at h
    by_cases hv : bondOk (ba ((Lib.splitK [32] 0 9 t.data.toList).headD [])) (coursesL (Lib.splitK [32] 0 9 t.data.toList)) = true
    · rw [if_pos hv] at h
      have h1 := words_of hv
      rw [h] at h1
      rw [h1]
      exact noBad_of hv
    · rw [if_neg hv] at h
      rw [← h] at hne
      exact absurd rfl hne
  · intro h
    have hf := noBad_few h
    have e : Lib.splitK [32] 0 9 t.data.toList = spl 32 t.data.toList := splitK_all (by omega)
    rw [e]
    obtain ⟨h1, h2⟩ := text_of_words h
    constructor
    · intro q
      have : t.data.toList = [] := ba_empty q
      rw [this] at h
      have := noBad_two (spl_ne _ _) h
      simp [spl] at this
    · unfold textB
      rw [if_pos h1]
      exact h2
open Classical in
/-- The text is that of a valid bond. -/
noncomputable def okT (t : ByteArray) : Bool := decide (noBad (spl 32 t.data.toList))
noncomputable def readN (t : ByteArray) : ByteArray := if okT t = true then ba ((spl 32 t.data.toList).headD []) else ⟨#[]⟩
noncomputable def readZ (t : ByteArray) : List Course := if okT t = true then coursesL (spl 32 t.data.toList) else []
theorem okT_iff {t : ByteArray} : okT t = true ↔ noBad (spl 32 t.data.toList) := by unfold okT; simp
theorem okT_split {t : ByteArray} (h : okT t = true) : Lib.splitK [32] 0 9 t.data.toList = spl 32 t.data.toList := splitK_all (by have := noBad_few (okT_iff.1 h); omega)
theorem readN_ok {t : ByteArray} (h : okT t = true) : readN t = ba ((spl 32 t.data.toList).headD []) := by unfold readN; rw [if_pos h]
theorem readZ_ok {t : ByteArray} (h : okT t = true) : readZ t = coursesL (spl 32 t.data.toList) := by unfold readZ; rw [if_pos h]
theorem readN_no {t : ByteArray} (h : okT t = false) : readN t = ⟨#[]⟩ := by unfold readN; rw [if_neg (by rw [h]; simp)]
theorem readZ_no {t : ByteArray} (h : okT t = false) : readZ t = [] := by unfold readZ; rw [if_neg (by rw [h]; simp)]
theorem split_len {c : UInt8} : ∀ {n : Nat} {l w : List UInt8}, w ∈ Lib.splitK [c] 0 n l → w.length ≤ l.length
  | 0, l, w, h => by
    rw [Lib.splitK, List.mem_singleton] at h
    rw [h]
    exact Nat.le_refl _
  | n + 1, l, w, h => by
    rcases spl_cases c l with ⟨h1, h2⟩ | ⟨a, b, rfl, h1, h2⟩
    · rw [splitK_all (by rw [spl_none h1]; simp), spl_none h1, List.mem_singleton] at h
      rw [h]
      exact Nat.le_refl _
    · rw [Lib.splitK, h2, if_neg (by simp <;> omega)] at h
      have e1 : ((a.length : Int).toNat + 0) = a.length := by omega
      have e2 : ((a.length : Int).toNat + [c].length) = a.length + 1 := by simp
      rw [e1, e2, List.take_left, ← List.drop_drop, List.drop_left, List.drop_succ_cons, List.drop_zero] at h
      rcases List.mem_cons.1 h with rfl | h
      · simp
      · have := split_len h
        simp
        omega
theorem word_size {t : ByteArray} {n i : Nat} {x : ByteArray} (h : ((Lib.splitK [32] 0 n t.data.toList).map ba)[i]? = some x) : x.size ≤ t.size := by
  rw [List.getElem?_map, Option.map_eq_some_iff] at h
  obtain ⟨l, hl, rfl⟩ := h
  rw [ba_size, ← data_size t]
  exact split_len (List.mem_of_getElem? hl)
theorem text_inj {a b : ByteArray} (h : a.toList = b.toList) : a = b := by
  have h1 : a.data.toList = b.data.toList := by rw [← Lib.toList_data a, ← Lib.toList_data b, h]
  rw [← ba_of a, ← ba_of b, h1]
theorem course_sizes (x : List UInt8) : (courseOfL x).lead.size ≤ x.length ∧ (courseOfL x).cycle.size ≤ x.length := by
  by_cases hm : (43 : UInt8) ∈ x
  · obtain ⟨a, b, rfl, ha, -⟩ : ∃ a b, x = a ++ 43 :: b ∧ (43 : UInt8) ∉ a ∧ Lib.index x [43] = (a.length : Int) := by
      rcases spl_cases 43 x with ⟨q, -⟩ | q
      · exact absurd hm q
      · exact q
    have e : courseOfL (a ++ 43 :: b) = ⟨ba a, ba b⟩ := by
      unfold courseOfL
      rw [cut_hit ha, if_pos rfl]
    rw [e]
    simp only [ba_size, List.length_append, List.length_cons]
    omega
  · have e : courseOfL x = ⟨⟨#[]⟩, ba x⟩ := by
      unfold courseOfL
      rw [cut_none hm, if_neg (by simp)]
    rw [e]
    simp only [ba_size]
    exact ⟨Nat.zero_le _, Nat.le_refl _⟩
theorem okT_false {t : ByteArray} (h : ¬ okT t = true) : okT t = false := by simpa using h
theorem empty_not {t : ByteArray} (h : t.size = 0) : okT t = false := okT_false (fun q => ((read_iff t).2 (okT_iff.1 q)).1 h)
theorem text_not {t : ByteArray} {w : List UInt8} {ws : List (List UInt8)} {zs : List Course} (hz : ws.map courseOfL = zs) (hw : Lib.splitK [32] 0 9 t.data.toList = w :: ws) (h : textB (ba w) zs ≠ t) : okT t = false := okT_false (fun q => h (by
  subst hz
  have := ((read_iff t).2 (okT_iff.1 q)).2
  rw [hw] at this
  exact this))
theorem text_yes {t : ByteArray} {w : List UInt8} {ws : List (List UInt8)} {zs : List Course} (hz : ws.map courseOfL = zs) (hw : Lib.splitK [32] 0 9 t.data.toList = w :: ws) (hne : ¬ t.size = 0) (h : textB (ba w) zs = t) : okT t = true ∧ readN t = ba w ∧ readZ t = zs := by
  subst hz
  have h1 : okT t = true := okT_iff.2 ((read_iff t).1 ⟨hne, by rw [hw]; exact h⟩)
  refine ⟨h1, ?_, ?_⟩
  · rw [readN_ok h1, ← okT_split h1, hw]
    rfl
  · rw [readZ_ok h1, ← okT_split h1, hw]
    rfl
theorem okT_size {t : ByteArray} (h : okT t = true) : t.size ≤ 400 := by
  obtain ⟨h1, h2⟩ := text_of_words (okT_iff.1 h)
  have h3 := textTo_size h1 (coursesL (spl 32 t.data.toList)).length
  rw [textTo_all, h2] at h3
  have := (bond_len' h1).2
  omega
end Go.Proofs.YtgobpleckeeheaaDoor
