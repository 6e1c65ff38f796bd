/-
  What is proved: the pieces of a course: the quarters of a letter, and whether a text has pieces alone or whole pieces alone, of the program and of the reference. Condition: a length that fits.
-/
import Derived.Test.YtgobpleckeeheaaDoorName
import Derived.Test.YtgobpleckeeheaaDoorSameL
import Derived.Lib.Bytealg
namespace Go.Proofs.YtgobpleckeeheaaDoor
open Go.RowKit Go.PlainAid
set_option linter.unusedVariables false

def qI (c : Int) : Int := if c = 83 then 4 else if c = 84 then 3 else if c = 72 then 2 else if c = 66 then 2 else if c = 67 then 1 else 0
theorem qI_bd (c : Int) : 0 ≤ qI c ∧ qI c ≤ 4 := by unfold qI; split; omega; split; omega; split; omega; split; omega; split <;> omega
def plC (c : Int) : Bool := decide (c = 83 ∨ c = 72)
def pcC (c : Int) : Bool := decide (qI c ≠ 0)
theorem pcC_iff (c : Int) : pcC c = true ↔ c = 83 ∨ c = 84 ∨ c = 72 ∨ c = 66 ∨ c = 67 := by
  unfold pcC qI
  rw [decide_eq_true_iff]
  split
  · omega
  split
  · omega
  split
  · omega
  split
  · omega
  split <;> omega
def onlyB (f : Int → Bool) (s : ByteArray) : Bool := decide (∀ j, j < s.size → f (bt s j) = true)
def pieceB (s : ByteArray) : Bool := onlyB pcC s
def plainB (s : ByteArray) : Bool := onlyB plC s
theorem only_more {f : Int → Bool} {s : ByteArray} {k : Nat} (h : ∀ j, j < k → f (bt s j) = true) (hk : f (bt s k) = true) : ∀ j, j < k + 1 → f (bt s j) = true := by
  intro j hj
  by_cases e : j = k
  · rw [e]; exact hk
  · exact h j (by omega)
theorem only_not {f : Int → Bool} {s : ByteArray} {k : Nat} (hs : k < s.size) (hk : f (bt s k) = false) : false = onlyB f s := by
  refine (decide_eq_false ?_).symm
  intro h
  rw [h k hs] at hk
  cases hk
theorem only_yes {f : Int → Bool} {s : ByteArray} (h : ∀ j, j < s.size → f (bt s j) = true) : true = onlyB f s := (decide_eq_true h).symm
theorem u8_of {c : Int} (h0 : 0 ≤ c) (h1 : c ≤ 255) : ((c.toNat.toUInt8).toNat : Int) = c := by
  show (((c.toNat % 256 : Nat)) : Int) = c
  omega
theorem u8_beq (k : UInt8) {c : Int} (h0 : 0 ≤ c) (h1 : c ≤ 255) : (k == c.toNat.toUInt8) = decide (c = (k.toNat : Int)) := by
  have h := u8_of h0 h1
  rw [Bool.eq_iff_iff, beq_iff_eq, decide_eq_true_iff]
  constructor
  · intro e
    rw [← h, ← e]
  · intro e
    apply UInt8.toNat_inj.1
    omega
theorem index_neg (l : List UInt8) {c : Int} (h0 : 0 ≤ c) (h1 : c ≤ 255) : decide (Lib.indexByte l c.toNat.toUInt8 < 0) = l.all fun k => !(decide (c = (k.toNat : Int))) := by
  induction l with
  | nil => rfl
  | cons k l ih =>
    have hg := Lib.indexByte_ge l c.toNat.toUInt8
    unfold Lib.indexByte
    rw [u8_beq k h0 h1, List.all_cons, ← ih]
    by_cases e : c = (k.toNat : Int)
    · simp [e]
    · simp only [e, decide_false, Bool.false_eq_true, if_false, Bool.not_false, Bool.true_and]
      split
      · rename_i h
        have h2 := eq_of_beq h
        rw [h2]
      · rename_i h
        have h2 : ¬ Lib.indexByte l c.toNat.toUInt8 = -1 := fun e2 => h (by rw [e2]; rfl)
        rw [decide_eq_false (by omega : ¬ (Lib.indexByte l c.toNat.toUInt8 + 1 < 0)), decide_eq_false (by omega : ¬ (Lib.indexByte l c.toNat.toUInt8 < 0))]
theorem index_all {c : Int} (h0 : 0 ≤ c) (h1 : c ≤ 255) : decide (Lib.indexByte [83, 72, 84, 66, 67] c.toNat.toUInt8 < 0) = !(pcC c) := by
  rw [index_neg _ h0 h1, Bool.eq_iff_iff, Bool.not_eq_true', ← Bool.not_eq_true, pcC_iff]
  simp
  omega
theorem index_whole {c : Int} (h0 : 0 ≤ c) (h1 : c ≤ 255) : decide (Lib.indexByte [83, 72] c.toNat.toUInt8 < 0) = !(plC c) := by
  rw [index_neg _ h0 h1, Bool.eq_iff_iff, Bool.not_eq_true', ← Bool.not_eq_true, plC, decide_eq_true_iff]
  simp
theorem spec_quarters (c : Int) (w : World) (hc0 : 0 ≤ c) (hc1 : c ≤ 255) : Calls Tryd.prog 52 #[.int .u8 c] w fun e w' => e = .returned (.int .i64 (qI c)) ∧ w = w' := by
  by_cases h83 : c = 83
  · subst h83
    rw [show qI 83 = 4 from rfl]
    go_enter Tryd.func52, Tryd.ntmps52
    go_wp2
    go_ret
    exact ⟨rfl, rfl⟩
  by_cases h84 : c = 84
  · subst h84
    rw [show qI 84 = 3 from rfl]
    go_enter Tryd.func52, Tryd.ntmps52
    go_wp2
    go_ret
    exact ⟨rfl, rfl⟩
  by_cases h72 : c = 72
  · subst h72
    rw [show qI 72 = 2 from rfl]
    go_enter Tryd.func52, Tryd.ntmps52
    go_wp2
    go_ret
    exact ⟨rfl, rfl⟩
  by_cases h66 : c = 66
  · subst h66
    rw [show qI 66 = 2 from rfl]
    go_enter Tryd.func52, Tryd.ntmps52
    go_wp2
    go_ret
    exact ⟨rfl, rfl⟩
  by_cases h67 : c = 67
  · subst h67
    rw [show qI 67 = 1 from rfl]
    go_enter Tryd.func52, Tryd.ntmps52
    go_wp2
    go_ret
    exact ⟨rfl, rfl⟩
  have hq : qI c = 0 := by unfold qI; rw [if_neg h83, if_neg h84, if_neg h72, if_neg h66, if_neg h67]
  rw [hq]
  clear hq
  have e83 : (c == 83) = false := by simp [h83]
  have e84 : (c == 84) = false := by simp [h84]
  have e72 : (c == 72) = false := by simp [h72]
  have e66 : (c == 66) = false := by simp [h66]
  have e67 : (c == 67) = false := by simp [h67]
  clear h83 h84 h72 h66 h67
  go_enter Tryd.func52, Tryd.ntmps52
  go_wp2
  go_ret
  exact ⟨rfl, rfl⟩
set_option maxHeartbeats 1000000 in
set_option maxRecDepth 100000 in
theorem stringslite_IndexByte (s : ByteArray) (c : Int) (w : World) :
    Calls Tryd.prog 55 #[.string s, .int .u8 c] w fun e w' => e = .returned (.int .i64 (Lib.indexByte s.data.toList c.toNat.toUInt8)) ∧ w = w' := by
  go_enter Tryd.func55, Tryd.ntmps55
  go_wp2
  rw [run_callFunc_extern Tryd.func61 (by kernel_rfl) (by kernel_rfl) (by kernel_rfl) (e := Extern.BytealgIndexByte.indexByte) (by kernel_rfl), Lib.run_indexByteString]
  simp only [Result.andThen]
  rw [Oper.upon_value]
  go_wp2
  go_ret
  exact ⟨rfl, rfl⟩
set_option maxHeartbeats 1000000 in
theorem strings_IndexByte (s : ByteArray) (c : Int) (w : World) :
    Calls Tryd.prog 46 #[.string s, .int .u8 c] w fun e w' => e = .returned (.int .i64 (Lib.indexByte s.data.toList c.toNat.toUInt8)) ∧ w = w' := by
  go_enter Tryd.func46, Tryd.ntmps46
  go_wp2_with fail
  refine (stringslite_IndexByte _ _ _).mono ?_
  rintro e w1 ⟨rfl, rfl⟩
  go_wp2
  go_ret
  exact ⟨rfl, rfl⟩
set_option maxHeartbeats 1000000 in
theorem impl_onlyPieces (s : ByteArray) (w : World) (hs : s.size ≤ maxLen) :
    Calls Tryd.prog 33 #[.string s, .string ⟨#[83, 72, 84, 66, 67]⟩] w fun e w' => e = .returned (.bool (onlyB pcC s)) ∧ ∃ q, w' = w.drewN q := by
  unfold maxLen at hs
  go_enter Tryd.func33, Tryd.ntmps33
  go_wp2
  go_loopw [8] (fun i wr => ∃ k : Nat, k ≤ s.size ∧ i = .int .i64 k ∧ Hid (∀ j, j < k → pcC (bt s j) = true) ∧ ∃ q, wr = w.drewN q) (fun i _ => s.size - (intOf i).toNat)
  case atStart => exact ⟨0, by omega, rfl, hide (fun j hj => absurd hj (by omega)), 0, rfl⟩
  case round =>
    obtain ⟨k, hk, rfl, HS, q, rfl⟩ := hrel
    by_cases hlt : k < s.size
    · have hb := get_bt s k
      have c0 := bt_nonneg s k
      have c1 := bt_le s k
      have HI := hide (index_all c0 c1)
      by_cases hp : pcC (bt s k) = true
      · have HN := hide (only_more HS.out hp)
        have hd : decide (Lib.indexByte [83, 72, 84, 66, 67] (bt s k).toNat.toUInt8 < 0) = false := by rw [HI.out, hp]; rfl
        clear hp
        go_wp2_with fail
        refine (strings_IndexByte _ _ _).mono ?_
        rintro e w1 ⟨rfl, rfl⟩
        go_wp2
        go_roundw
        case rel => exact ⟨k + 1, by omega, by go_num, HN, q, rfl⟩
        case measure => simp [intOf]; omega
      · have hp' : pcC (bt s k) = false := by simpa using hp
        have HN := hide (only_not hlt hp')
        have hd : decide (Lib.indexByte [83, 72, 84, 66, 67] (bt s k).toNat.toUInt8 < 0) = true := by rw [HI.out, hp']; rfl
        clear hp hp'
        go_wp2_with fail
        refine (strings_IndexByte _ _ _).mono ?_
        rintro e w1 ⟨rfl, rfl⟩
        go_wp2
        go_ret
        exact ⟨ret_bool HN.out, q, rfl⟩
    · have HN := hide (only_yes (f := pcC) (s := s) (fun j hj => HS.out j (by omega)))
      go_wp2
      go_ret
      exact ⟨ret_bool HN.out, q, rfl⟩
set_option maxHeartbeats 1000000 in
theorem impl_onlyWhole (s : ByteArray) (w : World) (hs : s.size ≤ maxLen) :
    Calls Tryd.prog 33 #[.string s, .string ⟨#[83, 72]⟩] w fun e w' => e = .returned (.bool (onlyB plC s)) ∧ ∃ q, w' = w.drewN q := by
  unfold maxLen at hs
  go_enter Tryd.func33, Tryd.ntmps33
  go_wp2
  go_loopw [8] (fun i wr => ∃ k : Nat, k ≤ s.size ∧ i = .int .i64 k ∧ Hid (∀ j, j < k → plC (bt s j) = true) ∧ ∃ q, wr = w.drewN q) (fun i _ => s.size - (intOf i).toNat)
  case atStart => exact ⟨0, by omega, rfl, hide (fun j hj => absurd hj (by omega)), 0, rfl⟩
  case round =>
    obtain ⟨k, hk, rfl, HS, q, rfl⟩ := hrel
    by_cases hlt : k < s.size
    · have hb := get_bt s k
      have c0 := bt_nonneg s k
      have c1 := bt_le s k
      have HI := hide (index_whole c0 c1)
      by_cases hp : plC (bt s k) = true
      · have HN := hide (only_more HS.out hp)
        have hd : decide (Lib.indexByte [83, 72] (bt s k).toNat.toUInt8 < 0) = false := by rw [HI.out, hp]; rfl
        clear hp
        go_wp2_with fail
        refine (strings_IndexByte _ _ _).mono ?_
        rintro e w1 ⟨rfl, rfl⟩
        go_wp2
        go_roundw
        case rel => exact ⟨k + 1, by omega, by go_num, HN, q, rfl⟩
        case measure => simp [intOf]; omega
      · have hp' : plC (bt s k) = false := by simpa using hp
        have HN := hide (only_not hlt hp')
        have hd : decide (Lib.indexByte [83, 72] (bt s k).toNat.toUInt8 < 0) = true := by rw [HI.out, hp']; rfl
        clear hp hp'
        go_wp2_with fail
        refine (strings_IndexByte _ _ _).mono ?_
        rintro e w1 ⟨rfl, rfl⟩
        go_wp2
        go_ret
        exact ⟨ret_bool HN.out, q, rfl⟩
    · have HN := hide (only_yes (f := plC) (s := s) (fun j hj => HS.out j (by omega)))
      go_wp2
      go_ret
      exact ⟨ret_bool HN.out, q, rfl⟩
set_option maxHeartbeats 1000000 in
theorem spec_l04Pieces (s : ByteArray) (w : World) (hs : s.size ≤ maxLen) :
    Calls Tryd.prog 38 #[.string s] w fun e w' => e = .returned (.bool (onlyB pcC s)) ∧ ∃ q, w' = w.drewN q := by
  unfold maxLen at hs
  go_enter Tryd.func38, Tryd.ntmps38
  go_wp2
  go_loopw [3] (fun i wr => ∃ k : Nat, k ≤ s.size ∧ i = .int .i64 k ∧ Hid (∀ j, j < k → pcC (bt s j) = true) ∧ ∃ q, wr = w.drewN q) (fun i _ => s.size - (intOf i).toNat)
  case atStart => exact ⟨0, by omega, rfl, hide (fun j hj => absurd hj (by omega)), 0, rfl⟩
  case round =>
    obtain ⟨k, hk, rfl, HS, q, rfl⟩ := hrel
    by_cases hlt : k < s.size
    · have hb := get_bt s k
      have c0 := bt_nonneg s k
      have c1 := bt_le s k
      by_cases hp : qI (bt s k) = 0
      · have HN := hide (only_not (f := pcC) hlt (by unfold pcC; rw [hp]; rfl))
        have hd : (qI (bt s k) == 0) = true := by rw [hp]; rfl
        clear hp
        go_wp2_with fail
        refine (spec_quarters _ _ c0 c1).mono ?_
        rintro e w1 ⟨rfl, rfl⟩
        go_wp2
        go_ret
        exact ⟨ret_bool HN.out, q, rfl⟩
      · have HN := hide (only_more (f := pcC) HS.out (decide_eq_true hp))
        have hd : (qI (bt s k) == 0) = false := by simpa using hp
        clear hp
        go_wp2_with fail
        refine (spec_quarters _ _ c0 c1).mono ?_
        rintro e w1 ⟨rfl, rfl⟩
        go_wp2
        go_roundw
        case rel => exact ⟨k + 1, by omega, by go_num, HN, q, rfl⟩
        case measure => simp [intOf]; omega
    · have HN := hide (only_yes (f := pcC) (s := s) (fun j hj => HS.out j (by omega)))
      go_wp2
      go_ret
      exact ⟨ret_bool HN.out, q, rfl⟩
set_option maxHeartbeats 1000000 in
theorem spec_l04Plain (s : ByteArray) (w : World) (hs : s.size ≤ maxLen) :
    Calls Tryd.prog 39 #[.string s] w fun e w' => e = .returned (.bool (onlyB plC s)) ∧ ∃ q, w' = w.drewN q := by
  unfold maxLen at hs
  go_enter Tryd.func39, Tryd.ntmps39
  go_wp2
  go_loopw [3] (fun i wr => ∃ k : Nat, k ≤ s.size ∧ i = .int .i64 k ∧ Hid (∀ j, j < k → plC (bt s j) = true) ∧ ∃ q, wr = w.drewN q) (fun i _ => s.size - (intOf i).toNat)
  case atStart => exact ⟨0, by omega, rfl, hide (fun j hj => absurd hj (by omega)), 0, rfl⟩
  case round =>
    obtain ⟨k, hk, rfl, HS, q, rfl⟩ := hrel
    by_cases hlt : k < s.size
    · have hb := get_bt s k
      have c0 := bt_nonneg s k
      have c1 := bt_le s k
      by_cases ha : bt s k = 83
      · have HN := hide (only_more (f := plC) HS.out (decide_eq_true (.inl ha)))
        have h1 : (bt s k != 83) = false := by simp [ha]
        clear ha
        go_wp2
        go_roundw
        case rel => exact ⟨k + 1, by omega, by go_num, HN, _, rfl⟩
        case measure => simp [intOf]; omega
      have h1 : (bt s k != 83) = true := by simp [ha]
      by_cases hh : bt s k = 72
      · have HN := hide (only_more (f := plC) HS.out (decide_eq_true (.inr hh)))
        have h2 : (bt s k != 72) = false := by simp [hh]
        clear ha hh
        go_wp2
        go_roundw
        case rel => exact ⟨k + 1, by omega, by go_num, HN, _, rfl⟩
        case measure => simp [intOf]; omega
      have HN := hide (only_not (f := plC) hlt (decide_eq_false (by omega)))
      have h2 : (bt s k != 72) = true := by simp [hh]
      clear ha hh
      go_wp2
      go_ret
      exact ⟨ret_bool HN.out, _, rfl⟩
    · have HN := hide (only_yes (f := plC) (s := s) (fun j hj => HS.out j (by omega)))
      go_wp2
      go_ret
      exact ⟨ret_bool HN.out, q, rfl⟩
end Go.Proofs.YtgobpleckeeheaaDoor
