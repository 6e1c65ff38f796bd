/-
  What is proved: the number with a decimal form: one contract each, of the program and of the reference. Conditions: a length that fits; the library's own table holds what its initialiser lays; its error variable holds some error.
-/
import Derived.Test.YtfjdhjbfingofaaGreatDoorJoinC
import Derived.Test.YtfjdhjbfingofaaGreatDoorShelf
import Derived.Lib.AppendIntMem
import Derived.PlainAid
namespace Go.Proofs.YtfjdhjbfingofaaGreatDoor
open Go.RowKit Go.PlainAid
set_option linter.unusedVariables false

def numV (s : ByteArray) : Int := (numL s.data.toList).getD 0
def numB (s : ByteArray) : Bool := (numL s.data.toList).isSome
theorem num_no {s : ByteArray} (h : numL s.data.toList = none) : numV s = 0 ∧ numB s = false := by
  unfold numV numB
  rw [h]
  exact ⟨rfl, rfl⟩
theorem num_yes {s : ByteArray} {n : Int} (h : numL s.data.toList = some n) : numV s = n ∧ numB s = true := by
  unfold numV numB
  rw [h]
  exact ⟨rfl, rfl⟩
theorem toList_inj' {a b : ByteArray} (h : a.toList = b.toList) : a = b := by
  have h1 : a.data.toList = b.data.toList := by rw [← Lib.toList_data a, ← Lib.toList_data b, h]
  rw [← ba_of a, ← ba_of b, h1]
theorem empty_of' {x : ByteArray} (h : x.size = 0) : x = ⟨#[]⟩ := by
  apply ByteArray.ext
  exact Array.eq_empty_of_size_eq_zero h
theorem nonempty_of' {x : ByteArray} (h : ¬ x.size = 0) : x.toList.isEmpty = false := by
  rw [← decide_eq_emptyBytes]
  refine decide_eq_false ?_
  intro e
  rw [e] at h
  exact h rfl
theorem cell_lt' {w : World} {b i : Nat} {v : Value} (h : w.cell? ⟨b, i, none⟩ = some v) : b < w.heap.size := by
  rcases Nat.lt_or_ge b w.heap.size with h1 | h1
  · exact h1
  · have e : w.heap[b]? = none := Array.getElem?_eq_none h1
    simp [World.cell?, e] at h
/-- The library's table of powers. -/
def Pow10 (w : World) : Prop := Lib.TabIs Tryz.prog w "internal/strconv.uint64pow10" .u64 Lib.pow10Tab
theorem Pow10.below {w w' : World} (h : Pow10 w) (hb : Below w.heap.size w w') : Pow10 w' := Lib.tabBelow_of_tabIs h w' hb
theorem impl_dec (n : Int) (w : World) (h : I64 n) (hp : Pow10 w) : Calls Tryz.prog 50 #[.int .i64 n] w fun e w' => e = .returned (.string (decB n)) ∧ Below w.heap.size w w' := by
  obtain ⟨h0, h1⟩ := h
  have HP := hide hp
  clear hp
  go_enter Tryz.func50, Tryz.ntmps50
  go_wp2_with fail
  refine (Tryz.strconv_FormatInt_10 n h0 h1 _ HP.out).mono ?_
  rintro e w1 ⟨rfl, k, os, hw⟩
  have HB := hide (show Below w.heap.size w w1 from by rw [hw]; exact Lib.below_grow w.heap.size w (Nat.le_refl _) k os)
  clear hw
  go_wp2
  go_ret
  exact ⟨rfl, HB.out⟩
/-- The library's error variable holds some error. -/
def ErrSyn (w : World) : Prop := ∃ tp p, w.cell? ⟨2, 0, none⟩ = some (.iface tp p)
theorem ErrSyn.below {w w' : World} (h : ErrSyn w) (hb : Below w.heap.size w w') : ErrSyn w' := by
  obtain ⟨tp, p, h⟩ := h
  exact ⟨tp, p, (hb.cell (p := ⟨2, 0, none⟩) (cell_lt' h)).trans h⟩
theorem parse_bad (s : ByteArray) (hs : s.size ≤ 281474976710656) (h : Lib.parseIntB 64 s.data.toList = Lib.NumEnd.ofOption (none : Option Int)) (w : World) (hy : ErrSyn w) :
    Calls Tryz.prog 78 #[.string s, .int .i64 10, .int .i64 64] w fun e w' => ∃ T q, e = .returned (.tuple #[.int .i64 0, .iface T q]) ∧ Below w.heap.size w w' := by
  obtain ⟨tp, p, hc⟩ := hy
  exact (Any.strconv_ParseInt_10_at64_syntax Tryz.laysC174 s hs h (.iface tp p) w hc (.inr ⟨tp, p, rfl⟩)).mono fun e w' ⟨N, he, _, _, hb⟩ => ⟨_, _, he, hb⟩
theorem trim_is (s : ByteArray) (w : World) : Calls Tryz.prog 77 #[.string s, .string ⟨#[45]⟩] w fun e w' => e = .returned (.string (ba (trimL s.data.toList))) ∧ w = w' := by
  refine (Tryz.strings_TrimPrefix s ⟨#[45]⟩ w).mono fun e w' ⟨he, hw⟩ => ⟨?_, hw.symm⟩
  rw [he]
  have e1 : Lib.trimPrefix s.data.toList [45] = trimL s.data.toList := by
    unfold Lib.trimPrefix Lib.hasPrefix trimL
    cases s.data.toList with
    | nil => rfl
    | cons c r =>
      by_cases h : c = 45
      · subst h
        rfl
      · rw [if_neg (by simp [List.isPrefixOf]; exact fun q => h q.symm), if_neg (by simpa using h)]
  show Ending.returned (.string ⟨(Lib.trimPrefix s.data.toList [45]).toArray⟩) = _
  rw [e1]
  rfl
theorem ba_size' (l : List UInt8) : (ba l).size = l.length := by simp [ba, ByteArray.size]
set_option maxRecDepth 100000 in
set_option maxHeartbeats 1000000 in
theorem impl_readDec (s : ByteArray) (w : World) (hs : s.size ≤ 16777216) (hp : Pow10 w) (hy : ErrSyn w) :
    Calls Tryz.prog 52 #[.string s] w fun e w' => e = .returned (.tuple #[.int .i64 (numV s), .bool (numB s)]) ∧ Below w.heap.size w w' := by
  have HP := hide hp
  have HY := hide hy
  have hsz : s.data.toList.length = s.size := by simp
  have htl : s.size ≤ (trimL s.data.toList).length + 1 := by
    unfold trimL
    split
    · rw [List.length_tail]; omega
    · omega
  clear hp hy
  by_cases h19 : 19 < s.size
  · obtain ⟨e1, e2⟩ := num_no (num_long (l := s.data.toList) (by omega))
    rw [e1, e2]
    have hd : decide (19 < (s.size : Int)) = true := by simp; omega
    clear e1 e2 hsz htl
    go_enter Tryz.func52, Tryz.ntmps52
    go_wp2
    go_ret2
    exact ⟨rfl, Below.refl _ _⟩
  have hd : decide (19 < (s.size : Int)) = false := by simp; omega
  have hbs := ba_size' (trimL s.data.toList)
  obtain ⟨t, ht⟩ : ∃ t, ba (trimL s.data.toList) = t := ⟨_, rfl⟩
  rw [ht] at hbs
  have HT := hide ht
  by_cases h18 : 18 < (trimL s.data.toList).length
  · obtain ⟨e1, e2⟩ := num_no (num_long h18)
    rw [e1, e2]
    have hd2 : decide (18 < (t.size : Int)) = true := by rw [hbs]; simp; omega
    clear e1 e2 hsz htl hbs h18 ht
    go_enter Tryz.func52, Tryz.ntmps52
    go_wp2_with fail
    refine (trim_is s _).mono ?_
    rintro e w1 ⟨rfl, rfl⟩
    rw [HT.out]
    go_wp2
    go_ret2
    exact ⟨rfl, Below.refl _ _⟩
  have hd2 : decide (18 < (t.size : Int)) = false := by rw [hbs]; simp; omega
  have hpar := parse_small s.data.toList (by omega)
  cases hat : Lib.atoi s.data.toList with
  | none =>
    obtain ⟨e1, e2⟩ := num_no (num_atoi hat)
    rw [e1, e2]
    rw [hat] at hpar
    have HPar := hide hpar
    clear e1 e2 hsz htl hbs h18 ht hpar hat
    go_enter Tryz.func52, Tryz.ntmps52
    go_wp2_with fail
    refine (trim_is s _).mono ?_
    rintro e w1 ⟨rfl, rfl⟩
    rw [HT.out]
    go_wp2_with fail
    refine (parse_bad s (by omega) HPar.out _ HY.out).mono ?_
    rintro e w2 ⟨T, q, rfl, hb⟩
    have HB := hide hb
    clear hb
    go_wp2
    go_ret2
    exact ⟨rfl, HB.out⟩
  | some n =>
    rw [hat] at hpar
    have hbd : I64 n := by
      have := Lib.parseIntB_bounds (B := 64) (v := n) hpar
      have e : (2 : Nat) ^ (64 - 1) = 9223372036854775808 := by decide
      rw [e] at this
      unfold I64
      omega
    have HPar := hide hpar
    by_cases hn : Lib.itoa n = s.data.toList
    · have hnum : numL s.data.toList = some n := by
        rw [num_iff]
        refine ⟨hn, ?_⟩
        rw [← trim_short, hn]
        omega
      obtain ⟨e1, e2⟩ := num_yes hnum
      rw [e1, e2]
      have hds : decB n = s := by unfold decB; rw [hn, ba_of]
      have HDS := hide hds
      have hne : (s.toList != s.toList) = false := by simp
      clear e1 e2 hsz htl hbs h18 ht hpar hat hn hnum hds
      go_enter Tryz.func52, Tryz.ntmps52
      go_wp2_with fail
      refine (trim_is s _).mono ?_
      rintro e w1 ⟨rfl, rfl⟩
      rw [HT.out]
      go_wp2_with fail
      refine (Tryz.strconv_ParseInt_10_at64_ok s (by omega) n HPar.out _).mono ?_
      rintro e w2 ⟨rfl, hw⟩
      have HB := hide (show Below w.heap.size w w2 from by
        rcases hw with rfl | ⟨t', rfl⟩
        · exact Below.refl _ _
        · exact Lib.bytesWorld_below _ _ _)
      clear hw
      go_wp2_with fail
      refine (impl_dec n _ hbd (HP.out.below HB.out)).mono ?_
      rintro e w3 ⟨rfl, hb⟩
      rw [HDS.out]
      have HB3 := hide (HB.out.trans (hb.mono HB.out.size))
      clear hb
      go_wp2
      go_ret2
      exact ⟨rfl, HB3.out⟩
    · obtain ⟨e1, e2⟩ := num_no (num_none hat hn)
      rw [e1, e2]
      have hne : ((decB n).toList != s.toList) = true := by
        simp only [bne_iff_ne, ne_eq]
        intro q
        apply hn
        have : decB n = s := toList_inj' q
        rw [← this]
        simp [decB, ba_data]
      have hne2 : ((decB n).toList == s.toList) = false := by
        rw [beq_eq_false_iff_ne]
        intro q
        simp [q] at hne
      clear e1 e2 hsz htl hbs h18 ht hpar hat hn
      go_enter Tryz.func52, Tryz.ntmps52
      go_wp2_with fail
      refine (trim_is s _).mono ?_
      rintro e w1 ⟨rfl, rfl⟩
      rw [HT.out]
      go_wp2_with fail
      refine (Tryz.strconv_ParseInt_10_at64_ok s (by omega) n HPar.out _).mono ?_
      rintro e w2 ⟨rfl, hw⟩
      have HB := hide (show Below w.heap.size w w2 from by
        rcases hw with rfl | ⟨t', rfl⟩
        · exact Below.refl _ _
        · exact Lib.bytesWorld_below _ _ _)
      clear hw
      go_wp2_with fail
      refine (impl_dec n _ hbd (HP.out.below HB.out)).mono ?_
      rintro e w3 ⟨rfl, hb⟩
      have HB3 := hide (HB.out.trans (hb.mono HB.out.size))
      clear hb
      go_wp2
      go_ret2
      exact ⟨rfl, HB3.out⟩
theorem from_more {l : List UInt8} {k v : Nat} {b : UInt8} (h : Lib.decFrom 0 (l.take k) = some v) (hb : l[k]? = some b) (hd : 48 ≤ b.toNat ∧ b.toNat ≤ 57) : Lib.decFrom 0 (l.take (k + 1)) = some (10 * v + (b.toNat - 48)) := by
  have := Lib.decFrom_take l k 0 v b (b.toNat - 48) h hb (by unfold Lib.digitVal; rw [if_pos hd])
  rw [this]
  congr 1
  omega
theorem data_ne {t : ByteArray} (h : 1 ≤ t.size) : t.data.toList ≠ [] := fun q => by
  have q2 : t.data.toList.length = 0 := by rw [q]; rfl
  rw [show t.data.toList.length = t.size from by simp] at q2
  omega
theorem num_done {s t : ByteArray} {v : Nat} {n : Int} (ht : trimL s.data.toList = t.data.toList) (hv : Lib.decFrom 0 (t.data.toList.take t.size) = some v) (hn : (if s.data.toList.head? = some 45 then -(v : Int) else (v : Int)) = n) (h1 : 1 ≤ t.size) (h18 : t.size ≤ 18) :
    (decB n = s → numV s = n ∧ numB s = true) ∧ (decB n ≠ s → numV s = 0 ∧ numB s = false) := by
  rw [List.take_of_length_le (by simp)] at hv
  have hat := atoi_trim (l := s.data.toList) (v := v) (by rw [ht]; exact hv) (by rw [ht]; exact data_ne h1)
  rw [hn] at hat
  constructor
  · intro q
    have hi : Lib.itoa n = s.data.toList := by rw [← q]; simp [decB, ba_data]
    apply num_yes
    rw [num_iff]
    refine ⟨hi, ?_⟩
    rw [← trim_short, hi, ht]
    simpa using h18
  · intro q
    apply num_no
    refine num_none hat ?_
    intro e
    apply q
    unfold decB
    rw [e, ba_of]
theorem spec_num_empty (s : ByteArray) (w : World) (h : s.size = 0) :
    Calls Tryz.prog 56 #[.string s] w fun e w' => e = .returned (.tuple #[.int .i64 (numV s), .bool (numB s)]) ∧ Below w.heap.size w w' := by
  obtain rfl := empty_of' h
  obtain ⟨e1, e2⟩ := num_no (s := ⟨#[]⟩) (num_empty rfl)
  rw [e1, e2]
  clear e1 e2
  go_enter Tryz.func56, Tryz.ntmps56
  go_wp2
  go_ret2
  exact ⟨rfl, Below.refl _ _⟩
set_option maxRecDepth 100000 in
set_option maxHeartbeats 2000000 in
theorem spec_num_min (s : ByteArray) (w : World) (hs : s.size ≤ 16777216) (h : ¬ s.size = 0) (h0 : bt s 0 = 45) :
    Calls Tryz.prog 56 #[.string s] w fun e w' => e = .returned (.tuple #[.int .i64 (numV s), .bool (numB s)]) ∧ Below w.heap.size w w' := by
  have hp : 0 < s.size := by omega
  have hne := nonempty_of' h
  have hb0 := get_bt s 0 hp
  have hm : (bt s 0 == 45) = true := by rw [h0]; rfl
  obtain ⟨t, ht⟩ : ∃ t, s.extract 1 s.size = t := ⟨_, rfl⟩
  have hts : t.size + 1 = s.size := by rw [← ht, ByteArray.size_extract]; omega
  have hhd : s.data.toList.head? = some 45 := by
    have hq : 0 < s.data.toList.length := by simpa using hp
    rw [List.head?_eq_getElem?, List.getElem?_eq_getElem hq, (bt_byte (c := 45) hp).1 h0]
  have htl : trimL s.data.toList = t.data.toList := by
    unfold trimL
    rw [if_pos hhd, ← ht, part_data, List.take_of_length_le (by simp)]
    simp
  have HT := hide ht
  clear ht
  have HH := hide hhd
  have HTL := hide htl
  clear hhd htl h0 h
  by_cases h1 : t.size < 1
  · obtain ⟨e1, e2⟩ := num_no (num_empty (l := s.data.toList) (by rw [HTL.out]; exact List.eq_nil_of_length_eq_zero (by rw [show t.data.toList.length = t.size from by simp]; omega)))
    rw [e1, e2]
    have d1 : decide ((t.size : Int) < 1) = true := by simp; omega
    have hcl : s.size = 1 := by omega
    have HC := hide hcl
    clear e1 e2 hts hcl h1
    go_enter Tryz.func56, Tryz.ntmps56
    have hex := HT.out
    go_wp2
    go_ret2
    exact ⟨rfl, Below.refl _ _⟩
  have d1 : decide ((t.size : Int) < 1) = false := by simp; omega
  by_cases h18 : 18 < t.size
  · obtain ⟨e1, e2⟩ := num_no (num_long (l := s.data.toList) (by rw [HTL.out]; simpa using h18))
    rw [e1, e2]
    have d2 : decide (18 < (t.size : Int)) = true := by simp; omega
    clear e1 e2 hts h18
    go_enter Tryz.func56, Tryz.ntmps56
    have hex := HT.out
    go_wp2
    go_ret2
    exact ⟨rfl, Below.refl _ _⟩
  have d2 : decide (18 < (t.size : Int)) = false := by simp; omega
  have hq1 : 1 ≤ t.size := by omega
  have hq18 : t.size ≤ 18 := by omega
  clear h18 h1
  have hlt : decide (t.size < s.size) = true := by simp; omega
  have hltn : t.size < s.size := by omega
  clear hts
  go_enter Tryz.func56, Tryz.ntmps56
  have hex := HT.out
  go_wp2
  clear hex
  go_loop [5, 6] (fun n i => ∃ k v : Nat, k ≤ t.size ∧ i = .int .i64 k ∧ n = .int .i64 (v : Int) ∧ v < 10 ^ k ∧ Hid (Lib.decFrom 0 (t.data.toList.take k) = some v)) (fun _ i => t.size - (intOf i).toNat)
  case atStart => exact ⟨0, 0, by omega, rfl, rfl, by decide, hide (by rw [List.take_zero]; rfl)⟩
  case round =>
    obtain ⟨k, v, hk, rfl, rfl, hv, HV⟩ := hrel
    have hv18 : 10 ^ k ≤ 10 ^ 18 := Nat.pow_le_pow_right (by omega) (by omega)
    by_cases hlt2 : k < t.size
    · have hb := get_bt t k hlt2
      have hbn := bt_nonneg t k
      have hb2 := bt_le t k
      have hki : (k : Int) < (t.size : Int) := by omega
      have hkl : k < t.data.toList.length := by simpa using hlt2
      have hbl := bt_list hlt2
      by_cases hd : 48 ≤ bt t k ∧ bt t k ≤ 57
      · have f0 : decide (48 ≤ bt t k) = true := by simp; omega
        have f1 : decide (bt t k ≤ 57) = true := by simp; omega
        have hv17 : 10 ^ (k + 1) ≤ 10 ^ 18 := Nat.pow_le_pow_right (by omega) (by omega)
        have hp1 : 10 ^ (k + 1) = 10 * 10 ^ k := by rw [Nat.pow_succ, Nat.mul_comm]
        obtain ⟨d, hdd⟩ : ∃ d : Nat, bt t k = 48 + (d : Int) := ⟨(bt t k - 48).toNat, by omega⟩
        have HN := hide (show Lib.decFrom 0 (t.data.toList.take (k + 1)) = some (10 * v + d) from by
          rw [from_more HV.out (List.getElem?_eq_getElem hkl) (by omega)]
          congr 1
          omega)
        have hvv : 10 * v + d < 10 ^ (k + 1) := by omega
        have hw9 : (10 * (v : Int) + (d : Int)) ≤ 1000000000000000000 := by omega
        have hd1 : (48 : Int) ≤ bt t k := hd.1
        have hd2 : bt t k ≤ 57 := hd.2
        have hsub : bt t k - 48 = (d : Int) := by omega
        clear hbl hp1 hv17 hdd
        go_wp2
        go_round
        case rel => exact ⟨k + 1, 10 * v + d, by omega, by go_num, by go_num, hvv, HN⟩
        case measure => simp [intOf]; omega
      · obtain ⟨e1, e2⟩ := num_no (num_bad (l := s.data.toList) (k := k) (b := t.data.toList[k]) (by rw [HTL.out]; exact List.getElem?_eq_getElem hkl) (by omega))
        have HE1 := hide e1
        have HE2 := hide e2
        clear e1 e2 hbl
        by_cases hx : 48 ≤ bt t k
        · have f0 : decide (48 ≤ bt t k) = true := by simp; omega
          have f1 : decide (bt t k ≤ 57) = false := by simp; omega
          clear hd hx
          go_wp2
          go_ret2
          rw [HE1.out, HE2.out]
          exact ⟨rfl, Below.refl _ _⟩
        · have f0 : decide (48 ≤ bt t k) = false := by simp; omega
          have f1 : decide (bt t k ≤ 57) = true := by simp; omega
          clear hd hx
          go_wp2
          go_ret2
          rw [HE1.out, HE2.out]
          exact ⟨rfl, Below.refl _ _⟩
    · obtain rfl : k = t.size := by omega
      have hno := num_done (s := s) (t := t) (n := -(v : Int)) HTL.out HV.out (by rw [if_pos HH.out]) hq1 hq18
      have hdk : decide ((t.size : Int) < (t.size : Int)) = false := by simp
      have hvb : (v : Int) ≤ 1000000000000000000 := by omega
      by_cases hq : decB (-(v : Int)) = s
      · obtain ⟨e1, e2⟩ := hno.1 hq
        have HE1 := hide e1
        have HE2 := hide e2
        have HQ := hide hq
        have hse : (s.toList != s.toList) = false := by simp
        clear e1 e2 hno hq
        go_wp2_with fail
        refine (spec_dec (-(v : Int)) _ ⟨by omega, by omega⟩).mono ?_
        rintro e w2 ⟨rfl, hb⟩
        rw [HQ.out]
        have HB := hide hb
        clear hb
        go_wp2
        go_ret2
        rw [HE1.out, HE2.out]
        exact ⟨rfl, HB.out⟩
      · obtain ⟨e1, e2⟩ := hno.2 hq
        have HE1 := hide e1
        have HE2 := hide e2
        have hse : ((decB (-(v : Int))).toList != s.toList) = true := by
          simp only [bne_iff_ne, ne_eq]
          exact fun q => hq (toList_inj' q)
        have hse2 : ((decB (-(v : Int))).toList == s.toList) = false := by
          rw [beq_eq_false_iff_ne]
          exact fun q => hq (toList_inj' q)
        clear e1 e2 hno hq
        go_wp2_with fail
        refine (spec_dec (-(v : Int)) _ ⟨by omega, by omega⟩).mono ?_
        rintro e w2 ⟨rfl, hb⟩
        have HB := hide hb
        clear hb
        go_wp2
        go_ret2
        rw [HE1.out, HE2.out]
        exact ⟨rfl, HB.out⟩
set_option maxRecDepth 100000 in
set_option maxHeartbeats 2000000 in
theorem spec_num_plain (s : ByteArray) (w : World) (hs : s.size ≤ 16777216) (h : ¬ s.size = 0) (h0 : ¬ bt s 0 = 45) :
    Calls Tryz.prog 56 #[.string s] w fun e w' => e = .returned (.tuple #[.int .i64 (numV s), .bool (numB s)]) ∧ Below w.heap.size w w' := by
  have hp : 0 < s.size := by omega
  have hne := nonempty_of' h
  have hb0 := get_bt s 0 hp
  have hm : (bt s 0 == 45) = false := by rw [beq_eq_false_iff_ne]; exact h0
  obtain ⟨t, ht⟩ : ∃ t, s = t := ⟨_, rfl⟩
  have hts : t.size = s.size := by rw [ht]
  have hhd : ¬ s.data.toList.head? = some 45 := by
    have hq : 0 < s.data.toList.length := by simpa using hp
    rw [List.head?_eq_getElem?, List.getElem?_eq_getElem hq]
    intro q
    exact h0 ((bt_byte (c := 45) hp).2 (Option.some.inj q))
  have htl : trimL s.data.toList = t.data.toList := by
    unfold trimL
    rw [if_neg hhd, ht]
  subst ht
  have HH := hide hhd
  have HTL := hide htl
  clear hhd htl h0 h
  have d1 : decide ((s.size : Int) < 1) = false := by simp; omega
  by_cases h18 : 18 < s.size
  · obtain ⟨e1, e2⟩ := num_no (num_long (l := s.data.toList) (by rw [HTL.out]; simpa using h18))
    rw [e1, e2]
    have d2 : decide (18 < (s.size : Int)) = true := by simp; omega
    clear e1 e2 hts h18
    go_enter Tryz.func56, Tryz.ntmps56
    go_wp2
    go_ret2
    exact ⟨rfl, Below.refl _ _⟩
  have d2 : decide (18 < (s.size : Int)) = false := by simp; omega
  have hq1 : 1 ≤ s.size := by omega
  have hq18 : s.size ≤ 18 := by omega
  clear h18
  have hlt : decide ((s.size : Int) < (s.size : Int)) = false := by simp
  clear hts
  go_enter Tryz.func56, Tryz.ntmps56
  go_wp2
  go_loop [5, 6] (fun n i => ∃ k v : Nat, k ≤ s.size ∧ i = .int .i64 k ∧ n = .int .i64 (v : Int) ∧ v < 10 ^ k ∧ Hid (Lib.decFrom 0 (s.data.toList.take k) = some v)) (fun _ i => s.size - (intOf i).toNat)
  case atStart => exact ⟨0, 0, by omega, rfl, rfl, by decide, hide (by rw [List.take_zero]; rfl)⟩
  case round =>
    obtain ⟨k, v, hk, rfl, rfl, hv, HV⟩ := hrel
    have hv18 : 10 ^ k ≤ 10 ^ 18 := Nat.pow_le_pow_right (by omega) (by omega)
    by_cases hlt2 : k < s.size
    · have hb := get_bt s k hlt2
      have hbn := bt_nonneg s k
      have hb2 := bt_le s k
      have hki : (k : Int) < (s.size : Int) := by omega
      have hkl : k < s.data.toList.length := by simpa using hlt2
      have hbl := bt_list hlt2
      by_cases hd : 48 ≤ bt s k ∧ bt s k ≤ 57
      · have f0 : decide (48 ≤ bt s k) = true := by simp; omega
        have f1 : decide (bt s k ≤ 57) = true := by simp; omega
        have hv17 : 10 ^ (k + 1) ≤ 10 ^ 18 := Nat.pow_le_pow_right (by omega) (by omega)
        have hp1 : 10 ^ (k + 1) = 10 * 10 ^ k := by rw [Nat.pow_succ, Nat.mul_comm]
        obtain ⟨d, hdd⟩ : ∃ d : Nat, bt s k = 48 + (d : Int) := ⟨(bt s k - 48).toNat, by omega⟩
        have HN := hide (show Lib.decFrom 0 (s.data.toList.take (k + 1)) = some (10 * v + d) from by
          rw [from_more HV.out (List.getElem?_eq_getElem hkl) (by omega)]
          congr 1
          omega)
        have hvv : 10 * v + d < 10 ^ (k + 1) := by omega
        have hw9 : (10 * (v : Int) + (d : Int)) ≤ 1000000000000000000 := by omega
        have hd1 : (48 : Int) ≤ bt s k := hd.1
        have hd2 : bt s k ≤ 57 := hd.2
        have hsub : bt s k - 48 = (d : Int) := by omega
        clear hbl hp1 hv17 hdd
        go_wp2
        go_round
        case rel => exact ⟨k + 1, 10 * v + d, by omega, by go_num, by go_num, hvv, HN⟩
        case measure => simp [intOf]; omega
      · obtain ⟨e1, e2⟩ := num_no (num_bad (l := s.data.toList) (k := k) (b := s.data.toList[k]) (by rw [HTL.out]; exact List.getElem?_eq_getElem hkl) (by omega))
        have HE1 := hide e1
        have HE2 := hide e2
        clear e1 e2 hbl
        by_cases hx : 48 ≤ bt s k
        · have f0 : decide (48 ≤ bt s k) = true := by simp; omega
          have f1 : decide (bt s k ≤ 57) = false := by simp; omega
          clear hd hx
          go_wp2
          go_ret2
          rw [HE1.out, HE2.out]
          exact ⟨rfl, Below.refl _ _⟩
        · have f0 : decide (48 ≤ bt s k) = false := by simp; omega
          have f1 : decide (bt s k ≤ 57) = true := by simp; omega
          clear hd hx
          go_wp2
          go_ret2
          rw [HE1.out, HE2.out]
          exact ⟨rfl, Below.refl _ _⟩
    · obtain rfl : k = s.size := by omega
      have hno := num_done (s := s) (t := s) (n := (v : Int)) HTL.out HV.out (by rw [if_neg HH.out]) hq1 hq18
      have hdk : decide ((s.size : Int) < (s.size : Int)) = false := by simp
      have hvb : (v : Int) ≤ 1000000000000000000 := by omega
      by_cases hq : decB ((v : Int)) = s
      · obtain ⟨e1, e2⟩ := hno.1 hq
        have HE1 := hide e1
        have HE2 := hide e2
        have HQ := hide hq
        have hse : (s.toList != s.toList) = false := by simp
        clear e1 e2 hno hq
        go_wp2_with fail
        refine (spec_dec ((v : Int)) _ ⟨by omega, by omega⟩).mono ?_
        rintro e w2 ⟨rfl, hb⟩
        rw [HQ.out]
        have HB := hide hb
        clear hb
        go_wp2
        go_ret2
        rw [HE1.out, HE2.out]
        exact ⟨rfl, HB.out⟩
      · obtain ⟨e1, e2⟩ := hno.2 hq
        have HE1 := hide e1
        have HE2 := hide e2
        have hse : ((decB ((v : Int))).toList != s.toList) = true := by
          simp only [bne_iff_ne, ne_eq]
          exact fun q => hq (toList_inj' q)
        have hse2 : ((decB ((v : Int))).toList == s.toList) = false := by
          rw [beq_eq_false_iff_ne]
          exact fun q => hq (toList_inj' q)
        clear e1 e2 hno hq
        go_wp2_with fail
        refine (spec_dec ((v : Int)) _ ⟨by omega, by omega⟩).mono ?_
        rintro e w2 ⟨rfl, hb⟩
        have HB := hide hb
        clear hb
        go_wp2
        go_ret2
        rw [HE1.out, HE2.out]
        exact ⟨rfl, HB.out⟩
theorem spec_num (s : ByteArray) (w : World) (hs : s.size ≤ 16777216) :
    Calls Tryz.prog 56 #[.string s] w fun e w' => e = .returned (.tuple #[.int .i64 (numV s), .bool (numB s)]) ∧ Below w.heap.size w w' := by
  by_cases h : s.size = 0
  · exact spec_num_empty s w h
  by_cases h0 : bt s 0 = 45
  · exact spec_num_min s w hs h h0
  · exact spec_num_plain s w hs h h0
end Go.Proofs.YtfjdhjbfingofaaGreatDoor
