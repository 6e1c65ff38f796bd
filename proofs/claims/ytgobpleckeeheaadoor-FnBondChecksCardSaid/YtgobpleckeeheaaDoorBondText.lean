/-
  What is proved: the text of a bond, of the program and of the reference. Condition: lengths that fit.
-/
import Derived.Test.YtgobpleckeeheaaDoorBondOk
namespace Go.Proofs.YtgobpleckeeheaaDoor
open Go.RowKit Go.PlainAid
set_option linter.unusedVariables false

def stepT (out : ByteArray) (c : Course) : ByteArray := (if c.lead.size = 0 then out ++ ⟨#[32]⟩ else out ++ ⟨#[32]⟩ ++ (c.lead ++ ⟨#[43]⟩)) ++ c.cycle
def textTo (s : ByteArray) (zs : List Course) (k : Nat) : ByteArray := (zs.take k).foldl stepT s
def textB (s : ByteArray) (zs : List Course) : ByteArray := if bondOk s zs = true then zs.foldl stepT s else ⟨#[]⟩
theorem textTo_step {s : ByteArray} {zs : List Course} {k : Nat} {z : Course} (h : zs[k]? = some z) : textTo s zs (k + 1) = stepT (textTo s zs k) z := by
  unfold textTo
  rw [List.take_add_one, h, List.foldl_append]
  rfl
theorem textTo_all (s : ByteArray) (zs : List Course) : textTo s zs zs.length = zs.foldl stepT s := by
  unfold textTo
  rw [List.take_length]
theorem stepT_size (out : ByteArray) (c : Course) : (stepT out c).size ≤ out.size + c.lead.size + c.cycle.size + 2 := by
  unfold stepT
  split
  · simp only [ByteArray.size_append]
    show out.size + 1 + c.cycle.size ≤ _
    omega
  · simp only [ByteArray.size_append]
    show out.size + 1 + (c.lead.size + 1) + c.cycle.size ≤ _
    omega
theorem bond_name {s : ByteArray} {zs : List Course} (h : bondOk s zs = true) : nameB s = true := by
  unfold bondOk at h
  rw [Bool.and_eq_true] at h
  exact h.1
theorem name_size {s : ByteArray} (h : nameB s = true) : 1 ≤ s.size ∧ s.size ≤ 12 := by
  have := of_decide_eq_true h
  exact ⟨this.1, this.2.1⟩
theorem bond_len' {s : ByteArray} {zs : List Course} (h : bondOk s zs = true) : 1 ≤ zs.length ∧ zs.length ≤ 8 := by
  unfold bondOk at h
  rw [Bool.and_eq_true, Bool.and_eq_true, decide_eq_true_iff] at h
  exact h.2.1
theorem bond_at {s : ByteArray} {zs : List Course} {i : Nat} {z : Course} (h : bondOk s zs = true) (hz : zs[i]? = some z) : z.ok = true := by
  unfold bondOk at h
  rw [Bool.and_eq_true, Bool.and_eq_true, List.all_eq_true] at h
  exact h.2.2 z (List.mem_of_getElem? hz)
theorem textTo_size {s : ByteArray} {zs : List Course} (h : bondOk s zs = true) (k : Nat) : (textTo s zs k).size ≤ 12 + 16 * k := by
  induction k with
  | zero =>
    have := name_size (bond_name h)
    show (List.foldl stepT s (zs.take 0)).size ≤ 12
    rw [List.take_zero]
    exact this.2
  | succ k ih =>
    cases hz : zs[k]? with
    | none =>
      have e : textTo s zs (k + 1) = textTo s zs k := by
        unfold textTo
        rw [List.take_of_length_le (by have := List.getElem?_eq_none_iff.1 hz; omega), List.take_of_length_le (List.getElem?_eq_none_iff.1 hz)]
      rw [e]
      omega
    | some z =>
      obtain ⟨x, y⟩ := z
      rw [textTo_step hz]
      have h1 := stepT_size (textTo s zs k) ⟨x, y⟩
      obtain ⟨c0, -, ⟨-, c2⟩, -⟩ := course_split (bond_at h hz)
      show (stepT (textTo s zs k) ⟨x, y⟩).size ≤ 12 + 16 * (k + 1)
      simp only at h1
      omega
theorem stepT_no {out x y : ByteArray} (h : x.size = 0) : stepT out ⟨x, y⟩ = out ++ ⟨#[32]⟩ ++ y := by unfold stepT; rw [if_pos h]
theorem stepT_lead {out x y : ByteArray} (h : ¬ x.size = 0) : stepT out ⟨x, y⟩ = out ++ ⟨#[32]⟩ ++ (x ++ ⟨#[43]⟩) ++ y := by unfold stepT; rw [if_neg h]
theorem empty_of {x : ByteArray} (h : x.size = 0) : x = ⟨#[]⟩ := by
  apply ByteArray.ext
  exact Array.eq_empty_of_size_eq_zero h
theorem nonempty_of {x : ByteArray} (h : ¬ x.size = 0) : x.toList.isEmpty = false := by
  rw [← decide_eq_emptyBytes]
  refine decide_eq_false ?_
  intro e
  rw [e] at h
  exact h rfl
set_option maxRecDepth 100000 in
set_option maxHeartbeats 2000000 in
theorem impl_bondText (s : ByteArray) (A : Option Addr) (n c : Nat) (zs : List Course) (w : World) (hs : s.size ≤ maxLen) (hn : n ≤ 16777216) (hl : zs.length = n) (h : Row Course.enc 2 w A zs) (hm : Texts zs) :
    Calls Tryd.prog 20 #[.agg #[.string s, .slice A n c]] w fun e w' => e = .returned (.string (textB s zs)) ∧ Below w.heap.size w w' := by
  have HA := hide h
  have HL := hide hl
  have HM := hide hm
  have hnm : n ≤ 9223372036854775807 := by omega
  clear h hl hm
  have HB0 := hide ((Below.refl w.heap.size w).alloc (Nat.le_refl _) (.cells #[.string s, .slice A n c] 26))
  by_cases hv : bondOk s zs = true
  case neg =>
    have hv' : bondOk s zs = false := by simpa using hv
    rw [show textB s zs = ⟨#[]⟩ from by unfold textB; rw [if_neg hv]]
    clear hv
    go_enter Tryd.func20, Tryd.ntmps20
    go_wp2_with fail
    refine (impl_validBond s A n c zs _ hs hn HL.out (HA.out.below HB0.out) HM.out).mono ?_
    rintro e w1 ⟨rfl, hb1⟩
    have HB1 := hide (HB0.out.trans (hb1.mono (by simp)))
    clear hb1
    rw [hv']
    go_wp2
    go_ret
    exact ⟨rfl, HB1.out⟩
  rw [show textB s zs = zs.foldl stepT s from by unfold textB; rw [if_pos hv]]
  have HV := hide hv
  have hn8 := (bond_len' hv).2
  rw [HL.out] at hn8
  clear hv
  go_enter Tryd.func20, Tryd.ntmps20
  go_wp2_with fail
  refine (impl_validBond s A n c zs _ hs hn HL.out (HA.out.below HB0.out) HM.out).mono ?_
  rintro e w1 ⟨rfl, hb1⟩
  have HB1 := hide (HB0.out.trans (hb1.mono (by simp)))
  have c0 := (hb1.cell (p := ⟨w.heap.size, 0, none⟩) (by simp)).trans (show _ = some (.string s) from by simp [go_sem])
  have c1 := (hb1.cell (p := ⟨w.heap.size, 1, none⟩) (by simp)).trans (show _ = some (.slice A n c) from by simp [go_sem])
  clear hb1
  rw [HV.out]
  go_wp2
  clear c0 c1
  go_loopw [3, 14] (fun v i wr => ∃ k : Nat, k ≤ n ∧ i = .int .i64 k ∧ v = .string (textTo s zs k) ∧ Hid (Below w.heap.size w wr)) (fun _ i _ => n - (intOf i).toNat)
  case atStart => exact ⟨0, by omega, rfl, rfl, HB1⟩
  case round =>
    obtain ⟨k, hk, rfl, rfl, HB⟩ := hrel
    have hsz := textTo_size HV.out k
    by_cases hlt : k < n
    · obtain ⟨⟨x0, x1⟩, hzk⟩ : ∃ z, zs[k]? = some z := ⟨zs[k]'(by have := HL.out; omega), List.getElem?_eq_getElem (by have := HL.out; omega)⟩
      obtain ⟨b, off, rfl, hb, a0, a1⟩ := row_at_2 (HA.out.below HB.out) hzk rfl
      obtain ⟨s0, -, ⟨-, s1⟩, -⟩ := course_split (bond_at HV.out hzk)
      have HS := hide (textTo_step (s := s) hzk)
      clear hzk
      have hki : (k : Int) < (n : Int) := by omega
      generalize textTo s zs k = out at *
      by_cases he : x0.size = 0
      · have HE := hide (stepT_no (out := out) (y := x1) he)
        have hx := empty_of he
        subst hx
        clear he
        go_wp2
        go_roundw
        case rel => exact ⟨k + 1, by omega, by go_num, by rw [HS.out, HE.out], hide (HB.out.alloc HB.out.size _)⟩
        case measure => simp [intOf]; omega
      · have HE := hide (stepT_lead (out := out) (y := x1) he)
        have em := nonempty_of he
        have em2 : (!x0.toList.isEmpty) = true := by rw [em]; rfl
        clear he
        go_wp2
        go_roundw
        case rel => exact ⟨k + 1, by omega, by go_num, by rw [HS.out, HE.out], hide (HB.out.alloc HB.out.size _)⟩
        case measure => simp [intOf]; omega
    · obtain rfl : k = n := by omega
      have HF := hide (show textTo s zs k = zs.foldl stepT s from by rw [← HL.out]; exact textTo_all s zs)
      rw [HF.out]
      go_wp2
      go_ret
      exact ⟨by first | rfl | (rw [HF.out]; rfl), HB.out⟩
set_option maxRecDepth 100000 in
set_option maxHeartbeats 2000000 in
theorem spec_l04Text (g : Nat) (s : ByteArray) (A : Option Addr) (n c : Nat) (zs : List Course) (w : World) (hv : bondOk s zs = true) (hn : n ≤ 16777216) (hl : zs.length = n) (h : Row Course.enc 2 w A zs) (hg : g < w.heap.size) (hc0 : w.cell? ⟨g, 0, none⟩ = some (.string s)) (hc1 : w.cell? ⟨g, 1, none⟩ = some (.slice A n c)) :
    Calls Tryd.prog 14 #[.pointer (some ⟨g, 0, none⟩)] w fun e w' => e = .returned (.string (zs.foldl stepT s)) ∧ Below w.heap.size w w' := by
  have HA := hide h
  have HL := hide hl
  have HV := hide hv
  have H0 := hide hc0
  have H1 := hide hc1
  have hn8 := (bond_len' hv).2
  rw [hl] at hn8
  clear h hl hv hc0 hc1
  have q0 : w.cell? ⟨g, 0, none⟩ = some (.string s) := H0.out
  go_enter Tryd.func14, Tryd.ntmps14
  go_wp2
  go_loopw [3, 4] (fun v i wr => ∃ k : Nat, k ≤ n ∧ i = .int .i64 k ∧ v = .string (textTo s zs k) ∧ Hid (Below w.heap.size w wr)) (fun _ i _ => n - (intOf i).toNat)
  case atStart => exact ⟨0, by omega, rfl, rfl, hide (Below.refl _ _)⟩
  case round =>
    clear q0
    obtain ⟨k, hk, rfl, rfl, HB⟩ := hrel
    have c1 := (HB.out.cell (p := ⟨g, 1, none⟩) hg).trans H1.out
    have hsz := textTo_size HV.out k
    by_cases hlt : k < n
    · obtain ⟨⟨x0, x1⟩, hzk⟩ : ∃ z, zs[k]? = some z := ⟨zs[k]'(by have := HL.out; omega), List.getElem?_eq_getElem (by have := HL.out; omega)⟩
      obtain ⟨b, off, rfl, hb, a0, a1⟩ := row_at_2 (HA.out.below HB.out) hzk rfl
      obtain ⟨s0, -, ⟨-, s1⟩, -⟩ := course_split (bond_at HV.out hzk)
      have HS := hide (textTo_step (s := s) hzk)
      clear hzk
      have hki : (k : Int) < (n : Int) := by omega
      generalize textTo s zs k = out at *
      by_cases he : x0.size = 0
      · have HE := hide (stepT_no (out := out) (y := x1) he)
        have hx := empty_of he
        subst hx
        clear he
        go_wp2
        go_roundw
        case rel => exact ⟨k + 1, by omega, by go_num, by rw [HS.out, HE.out], HB⟩
        case measure => simp [intOf]; omega
      · have HE := hide (stepT_lead (out := out) (y := x1) he)
        have em := nonempty_of he
        have em2 : (!x0.toList.isEmpty) = true := by rw [em]; rfl
        clear he
        go_wp2
        go_roundw
        case rel => exact ⟨k + 1, by omega, by go_num, by rw [HS.out, HE.out], HB⟩
        case measure => simp [intOf]; omega
    · obtain rfl : k = n := by omega
      have HF := hide (show textTo s zs k = zs.foldl stepT s from by rw [← HL.out]; exact textTo_all s zs)
      rw [HF.out]
      go_wp2
      go_ret
      exact ⟨by first | rfl | (rw [HF.out]; rfl), HB.out⟩
set_option maxHeartbeats 1000000 in
theorem spec_bondText (s : ByteArray) (A : Option Addr) (n c : Nat) (zs : List Course) (w : World) (hs : s.size ≤ maxLen) (hn : n ≤ 16777216) (hl : zs.length = n) (h : Row Course.enc 2 w A zs) (hm : Texts zs) :
    Calls Tryd.prog 7 #[.agg #[.string s, .slice A n c]] w fun e w' => e = .returned (.string (textB s zs)) ∧ Below w.heap.size w w' := by
  have HA := hide h
  have HL := hide hl
  have HM := hide hm
  clear h hl hm
  have HB0 := hide ((Below.refl w.heap.size w).alloc (Nat.le_refl _) (.cells #[.string s, .slice A n c] 26))
  by_cases hv : bondOk s zs = true
  case neg =>
    have hv' : bondOk s zs = false := by simpa using hv
    rw [show textB s zs = ⟨#[]⟩ from by unfold textB; rw [if_neg hv]]
    clear hv
    go_enter Tryd.func7, Tryd.ntmps7
    go_wp2_with fail
    refine (spec_l04Ok w.heap.size s A n c zs _ hs hn HL.out (HA.out.below HB0.out) HM.out (by simp) (by simp [go_sem]) (by simp [go_sem])).mono ?_
    rintro e w1 ⟨rfl, hb1⟩
    have HB1 := hide (HB0.out.trans (hb1.mono (by simp)))
    clear hb1
    rw [hv']
    go_wp2
    go_ret
    exact ⟨rfl, HB1.out⟩
  rw [show textB s zs = zs.foldl stepT s from by unfold textB; rw [if_pos hv]]
  go_enter Tryd.func7, Tryd.ntmps7
  go_wp2_with fail
  refine (spec_l04Ok w.heap.size s A n c zs _ hs hn HL.out (HA.out.below HB0.out) HM.out (by simp) (by simp [go_sem]) (by simp [go_sem])).mono ?_
  rintro e w1 ⟨rfl, hb1⟩
  have HB1 := hide (HB0.out.trans (hb1.mono (by simp)))
  have c0 := (hb1.cell (p := ⟨w.heap.size, 0, none⟩) (by simp)).trans (show _ = some (.string s) from by simp [go_sem])
  have c1 := (hb1.cell (p := ⟨w.heap.size, 1, none⟩) (by simp)).trans (show _ = some (.slice A n c) from by simp [go_sem])
  have hz1 : w.heap.size < w1.heap.size := by have := hb1.size; simp at this; omega
  clear hb1
  rw [hv]
  go_wp2_with fail
  refine (spec_l04Text w.heap.size s A n c zs _ hv hn HL.out (HA.out.below HB1.out) hz1 c0 c1).mono ?_
  rintro e w2 ⟨rfl, hb2⟩
  have HB2 := hide (HB1.out.trans (hb2.mono (Nat.le_of_lt hz1)))
  clear hb2
  go_wp2
  go_ret
  exact ⟨rfl, HB2.out⟩
end Go.Proofs.YtgobpleckeeheaaDoor
