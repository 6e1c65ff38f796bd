/-
  What is proved: the code of a bond, of courses and of a length; the perpends of a course of a bond, of the program and of the reference. Condition: lengths that fit.
-/
import Derived.Test.YtfjnhocmkafnbaaBCode
namespace Go.Proofs.Ytfjnhocmkafnbaa
open Go.RowKit Go.PlainAid
set_option linter.unusedVariables false

theorem bcode_bad {s : ByteArray} {zs : List Course} {ks : List Int} {u : Int} (h : bondOk s zs = false) : bcode s zs ks u = 1 := by unfold bcode; rw [h]; rfl
theorem bcode_out {s : ByteArray} {zs : List Course} {ks : List Int} {u : Int} (h : bondOk s zs = true) (h2 : ¬ (ks.all (inP 0 1000) = true ∧ 1 ≤ u ∧ u ≤ 200)) : bcode s zs ks u = 2 := by unfold bcode; rw [if_pos h, if_neg h2]
theorem bcode_ok {s : ByteArray} {zs : List Course} {ks : List Int} {u : Int} (h : bondOk s zs = true) (h2 : ks.all (inP 0 1000) = true ∧ 1 ≤ u ∧ u ≤ 200) : bcode s zs ks u = 0 := by unfold bcode; rw [if_pos h, if_pos h2]
theorem bcode_cases (s : ByteArray) (zs : List Course) (ks : List Int) (u : Int) : (bcode s zs ks u = 0 ∧ bondOk s zs = true ∧ ks.all (inP 0 1000) = true ∧ 1 ≤ u ∧ u ≤ 200) ∨ bcode s zs ks u = 1 ∨ bcode s zs ks u = 2 := by
  by_cases h : bondOk s zs = true
  · by_cases h2 : ks.all (inP 0 1000) = true ∧ 1 ≤ u ∧ u ≤ 200
    · exact .inl ⟨bcode_ok h h2, h, h2⟩
    · exact .inr (.inr (bcode_out h h2))
  · exact .inr (.inl (bcode_bad (by simpa using h)))
theorem all_one {k : Int} : [k].all (inP 0 1000) = true ↔ 0 ≤ k ∧ k ≤ 1000 := by simp [inP]
set_option maxRecDepth 100000 in
set_option maxHeartbeats 1000000 in
theorem impl_bondCode (s : ByteArray) (A : Option Addr) (n c : Nat) (zs : List Course) (u : Int) (C : Option Addr) (m d : Nat) (ks : List Int) (w : World) (hs : s.size ≤ maxLen) (hn : n ≤ 16777216) (hl : zs.length = n) (h : Row Course.enc 2 w A zs) (hm : Texts zs) (hmn : m ≤ 16777216) (hkl : ks.length = m) (hk : Row encI 1 w C ks) :
    Calls Try.prog 99 #[.agg #[.string s, .slice A n c], .int .i64 u, .slice C m d] w fun e w' => e = .returned (.int .i64 (bcode s zs ks u)) ∧ Below w.heap.size w w' := by
  have HA := hide h
  have HL := hide hl
  have HM := hide hm
  have HKL := hide hkl
  have HK := hide hk
  clear h hl hm hk hkl
  have HB0 := hide ((Below.refl w.heap.size w).alloc (Nat.le_refl _) (.cells #[.string s, .slice A n c] 62))
  by_cases hv : bondOk s zs = true
  case neg =>
    have hv' : bondOk s zs = false := by simpa using hv
    rw [bcode_bad hv']
    clear hv
    go_enter Try.func99, Try.ntmps99
    go_wp2_with fail
    refine (impl_validBond s _ _ _ zs _ hs hn HL.out (HA.out.below HB0.out) HM.out).mono ?_
    rintro e w1 ⟨rfl, hb1⟩
    have HB1 := hide (HB0.out.trans (hb1.mono (by simp)))
    clear hb1
    rw [hv']
    go_wp2
    go_ret
    exact ⟨rfl, HB1.out⟩
  by_cases ha : ks.all (inP 0 1000) = true
  case neg =>
    have ha' : ks.all (inP 0 1000) = false := by simpa using ha
    rw [bcode_out hv (fun q => ha q.1)]
    clear ha
    go_enter Try.func99, Try.ntmps99
    go_wp2_with fail
    refine (impl_validBond s _ _ _ zs _ hs hn HL.out (HA.out.below HB0.out) HM.out).mono ?_
    rintro e w1 ⟨rfl, hb1⟩
    have HB1 := hide (HB0.out.trans (hb1.mono (by simp)))
    clear hb1
    rw [hv]
    go_wp2_with fail
    refine (impl_outside _ _ _ ks 0 1000 _ hmn HKL.out (HK.out.below HB1.out)).mono ?_
    rintro e w2 ⟨rfl, hb2⟩
    have HB2 := hide (HB1.out.trans (hb2.mono HB1.out.size))
    clear hb2
    rw [ha']
    go_wp2
    go_ret
    exact ⟨rfl, HB2.out⟩
  by_cases hu : 1 ≤ u ∧ u ≤ 200
  case neg =>
    rw [bcode_out hv (fun q => hu q.2)]
    go_enter Try.func99, Try.ntmps99
    go_wp2_with fail
    refine (impl_validBond s _ _ _ zs _ hs hn HL.out (HA.out.below HB0.out) HM.out).mono ?_
    rintro e w1 ⟨rfl, hb1⟩
    have HB1 := hide (HB0.out.trans (hb1.mono (by simp)))
    clear hb1
    rw [hv]
    go_wp2_with fail
    refine (impl_outside _ _ _ ks 0 1000 _ hmn HKL.out (HK.out.below HB1.out)).mono ?_
    rintro e w2 ⟨rfl, hb2⟩
    have HB2 := hide (HB1.out.trans (hb2.mono HB1.out.size))
    clear hb2
    rw [ha]
    go_wp2_with fail
    refine (impl_in_no _ _ _ _ hu).mono ?_
    rintro e w3 ⟨rfl, rfl⟩
    go_wp2
    go_ret
    exact ⟨rfl, HB2.out⟩
  rw [bcode_ok hv ⟨ha, hu⟩]
  go_enter Try.func99, Try.ntmps99
  go_wp2_with fail
  refine (impl_validBond s _ _ _ zs _ hs hn HL.out (HA.out.below HB0.out) HM.out).mono ?_
  rintro e w1 ⟨rfl, hb1⟩
  have HB1 := hide (HB0.out.trans (hb1.mono (by simp)))
  clear hb1
  rw [hv]
  go_wp2_with fail
  refine (impl_outside _ _ _ ks 0 1000 _ hmn HKL.out (HK.out.below HB1.out)).mono ?_
  rintro e w2 ⟨rfl, hb2⟩
  have HB2 := hide (HB1.out.trans (hb2.mono HB1.out.size))
  clear hb2
  rw [ha]
  go_wp2_with fail
  refine (impl_in_yes _ _ _ _ hu.1 hu.2).mono ?_
  rintro e w3 ⟨rfl, rfl⟩
  go_wp2
  go_ret
  exact ⟨rfl, HB2.out⟩
set_option maxRecDepth 100000 in
set_option maxHeartbeats 1000000 in
theorem spec_l04Code (g : Nat) (s : ByteArray) (A : Option Addr) (n c : Nat) (zs : List Course) (k u : Int) (w : World) (hs : s.size ≤ maxLen) (hn : n ≤ 16777216) (hl : zs.length = n) (h : Row Course.enc 2 w A zs) (hm : Texts zs) (hg : g < w.heap.size) (hc0 : w.cell? ⟨g, 0, none⟩ = some (.string s)) (hc1 : w.cell? ⟨g, 1, none⟩ = some (.slice A n c)) :
    Calls Try.prog 104 #[.pointer (some ⟨g, 0, none⟩), .int .i64 k, .int .i64 u] w fun e w' => e = .returned (.int .i64 (bcode s zs [k] u)) ∧ Below w.heap.size w w' := by
  have HA := hide h
  have HL := hide hl
  have HM := hide hm
  have H0 := hide hc0
  have H1 := hide hc1
  clear h hl hm hc0 hc1
  by_cases hv : bondOk s zs = true
  case neg =>
    have hv' : bondOk s zs = false := by simpa using hv
    rw [bcode_bad hv']
    clear hv
    go_enter Try.func104, Try.ntmps104
    go_wp2_with fail
    refine (spec_l04Ok g s A n c zs _ hs hn HL.out HA.out HM.out hg H0.out H1.out).mono ?_
    rintro e w1 ⟨rfl, hb1⟩
    have HB1 := hide hb1
    clear hb1
    rw [hv']
    go_wp2
    go_ret
    exact ⟨rfl, HB1.out⟩
  by_cases ha : 0 ≤ k ∧ k ≤ 1000
  case neg =>
    rw [bcode_out hv (fun q => ha (all_one.1 q.1))]
    go_enter Try.func104, Try.ntmps104
    go_wp2_with fail
    refine (spec_l04Ok g s A n c zs _ hs hn HL.out HA.out HM.out hg H0.out H1.out).mono ?_
    rintro e w1 ⟨rfl, hb1⟩
    have HB1 := hide hb1
    clear hb1
    rw [hv]
    go_wp2_with fail
    refine (spec_in_no _ _ _ _ ha).mono ?_
    rintro e w2 ⟨rfl, rfl⟩
    go_wp2
    go_ret
    exact ⟨rfl, HB1.out⟩
  by_cases hu : 1 ≤ u ∧ u ≤ 200
  case neg =>
    rw [bcode_out hv (fun q => hu q.2)]
    go_enter Try.func104, Try.ntmps104
    go_wp2_with fail
    refine (spec_l04Ok g s A n c zs _ hs hn HL.out HA.out HM.out hg H0.out H1.out).mono ?_
    rintro e w1 ⟨rfl, hb1⟩
    have HB1 := hide hb1
    clear hb1
    rw [hv]
    go_wp2_with fail
    refine (spec_in_yes _ _ _ _ ha.1 ha.2).mono ?_
    rintro e w2 ⟨rfl, rfl⟩
    go_wp2_with fail
    refine (spec_in_no _ _ _ _ hu).mono ?_
    rintro e w3 ⟨rfl, rfl⟩
    go_wp2
    go_ret
    exact ⟨rfl, HB1.out⟩
  rw [bcode_ok hv ⟨all_one.2 ha, hu⟩]
  go_enter Try.func104, Try.ntmps104
  go_wp2_with fail
  refine (spec_l04Ok g s A n c zs _ hs hn HL.out HA.out HM.out hg H0.out H1.out).mono ?_
  rintro e w1 ⟨rfl, hb1⟩
  have HB1 := hide hb1
  clear hb1
  rw [hv]
  go_wp2_with fail
  refine (spec_in_yes _ _ _ _ ha.1 ha.2).mono ?_
  rintro e w2 ⟨rfl, rfl⟩
  go_wp2_with fail
  refine (spec_in_yes _ _ _ _ hu.1 hu.2).mono ?_
  rintro e w3 ⟨rfl, rfl⟩
  go_wp2
  go_ret
  exact ⟨rfl, HB1.out⟩
def courseAt (zs : List Course) (k : Int) : Course := (zs[k.toNat % zs.length]?).getD ⟨⟨#[]⟩, ⟨#[]⟩⟩
theorem courseAt_is {zs : List Course} {k : Nat} {x y : ByteArray} (h : zs[k % zs.length]? = some ⟨x, y⟩) : courseAt zs (k : Int) = ⟨x, y⟩ := by
  unfold courseAt
  rw [Int.toNat_natCast, h]
  rfl
noncomputable def perpsL (s : ByteArray) (zs : List Course) (k u : Int) : List Int := if bcode s zs [k] u = 0 then perps (courseAt zs k).lead (courseAt zs k).cycle u else []
theorem row_one (w : World) (k : Int) (t : TypeId) : Row encI 1 (w.alloc (.cells #[.int .i64 k] t)) (some ⟨w.heap.size, 0, none⟩) [k] := fun _ => by
  refine ⟨w.heap.size, 0, rfl, by simp, fun i x hi j v hv => ?_⟩
  match i, hi with
  | 0, hi =>
    obtain rfl := Option.some.inj hi
    match j, hv with
    | 0, hv =>
      obtain rfl := Option.some.inj hv
      simp [go_sem]
theorem row_one_at (w : World) (k : Int) (t : TypeId) (g : Nat) (hg : w.heap.size = g) : Row encI 1 (w.alloc (.cells #[.int .i64 k] t)) (some ⟨g, 0, none⟩) [k] := by
  subst hg
  exact row_one w k t
set_option maxRecDepth 100000 in
set_option maxHeartbeats 1000000 in
theorem impl_perpendsOf (s : ByteArray) (A : Option Addr) (n c : Nat) (zs : List Course) (k u : Int) (w : World) (hs : s.size ≤ maxLen) (hn : n ≤ 16777216) (hl : zs.length = n) (h : Row Course.enc 2 w A zs) (hm : Texts zs) :
    Calls Try.prog 35 #[.agg #[.string s, .slice A n c], .int .i64 k, .int .i64 u] w fun e w' => ∃ A' c', e = .returned (.tuple #[.slice A' (perpsL s zs k u).length c', .int .i64 (bcode s zs [k] u)]) ∧ Own 2 1 encI w' w.heap.size w'.heap.size A' (perpsL s zs k u).length c' (perpsL s zs k u) ∧ Below w.heap.size w w' := by
  have HA := hide h
  have HL := hide hl
  have HM := hide hm
  clear h hl hm
  have HB0 := hide ((Below.refl w.heap.size w).alloc (Nat.le_refl _) (.cells #[.string s, .slice A n c] 62))
  have HBa := hide (HB0.out.alloc (by simp) (.cells #[.int .i64 k] 2))
  rcases bcode_cases s zs [k] u with ⟨hcode, hv, ha, hu0, hu1⟩ | hcode | hcode
  · obtain ⟨hk0, hk1⟩ := all_one.1 ha
    obtain ⟨k, rfl⟩ : ∃ j : Nat, k = (j : Int) := ⟨k.toNat, by omega⟩
    obtain ⟨x, y, hz⟩ := course_get (zs := zs) k (bond_len hv).1
    have hok : Course.ok ⟨x, y⟩ = true := bond_course hv hz
    rw [show perpsL s zs (k : Int) u = perps x y u from by unfold perpsL; rw [if_pos hcode, courseAt_is hz]]
    rw [HL.out] at hz
    have HZ := hide hz
    have HV := hide hv
    rw [hcode]
    clear ha hz hv
    go_enter Try.func35, Try.ntmps35
    go_wp2_with fail
    refine (impl_bondCode s A n c zs u _ _ _ [k] _ hs hn HL.out (HA.out.below HBa.out) HM.out (by simp) rfl (row_one_at _ _ _ _ (by simp))).mono ?_
    rintro e w1 ⟨rfl, hb1⟩
    have HB1 := hide (HBa.out.trans (hb1.mono (by simp <;> omega)))
    have c0 := (hb1.cell (p := ⟨w.heap.size, 0, none⟩) (by simp <;> omega)).trans (show _ = some (.string s) from by simp [go_sem])
    have c1 := (hb1.cell (p := ⟨w.heap.size, 1, none⟩) (by simp <;> omega)).trans (show _ = some (.slice A n c) from by simp [go_sem])
    have hz1 : w.heap.size < w1.heap.size := by have := hb1.size; simp at this; omega
    clear hb1
    rw [hcode]
    clear hcode
    go_wp2_with fail
    refine (impl_course s A n c zs k x y _ (by omega) hn HL.out (HA.out.below HB1.out) HZ.out).mono ?_
    rintro e w2 ⟨rfl, hb2⟩
    have HB2 := hide (HB1.out.trans (hb2.mono HB1.out.size))
    have hz2 : w.heap.size ≤ w2.heap.size := HB2.out.size
    clear hb2 c0 c1
    go_wp2_with fail
    refine (impl_perpends x y u _ hok hu0 hu1).mono ?_
    rintro e w3 ⟨A', c', rfl, ho, hb3⟩
    have HB3 := hide (HB2.out.trans (hb3.mono hz2))
    have HO := hide ho
    clear hb3 ho
    go_wp2
    go_ret2
    exact ⟨A', c', rfl, ⟨HO.out.len, own_low1 HO.out.own hz2, HO.out.up, HO.out.hi_le⟩, HB3.out⟩
  · rw [show perpsL s zs k u = [] from by unfold perpsL; rw [if_neg (by omega)]]
    rw [hcode]
    go_enter Try.func35, Try.ntmps35
    go_wp2_with fail
    refine (impl_bondCode s A n c zs u _ _ _ [k] _ hs hn HL.out (HA.out.below HBa.out) HM.out (by simp) rfl (row_one_at _ _ _ _ (by simp))).mono ?_
    rintro e w1 ⟨rfl, hb1⟩
    have HB1 := hide (HBa.out.trans (hb1.mono (by simp <;> omega)))
    have c0 := (hb1.cell (p := ⟨w.heap.size, 0, none⟩) (by simp <;> omega)).trans (show _ = some (.string s) from by simp [go_sem])
    have c1 := (hb1.cell (p := ⟨w.heap.size, 1, none⟩) (by simp <;> omega)).trans (show _ = some (.slice A n c) from by simp [go_sem])
    have hz1 : w.heap.size < w1.heap.size := by have := hb1.size; simp at this; omega
    clear hb1
    rw [hcode]
    clear hcode
    go_wp2
    go_ret2
    exact ⟨none, 0, rfl, Own.nil (Nat.le_refl _), HB1.out⟩
  · rw [show perpsL s zs k u = [] from by unfold perpsL; rw [if_neg (by omega)]]
    rw [hcode]
    go_enter Try.func35, Try.ntmps35
    go_wp2_with fail
    refine (impl_bondCode s A n c zs u _ _ _ [k] _ hs hn HL.out (HA.out.below HBa.out) HM.out (by simp) rfl (row_one_at _ _ _ _ (by simp))).mono ?_
    rintro e w1 ⟨rfl, hb1⟩
    have HB1 := hide (HBa.out.trans (hb1.mono (by simp <;> omega)))
    have c0 := (hb1.cell (p := ⟨w.heap.size, 0, none⟩) (by simp <;> omega)).trans (show _ = some (.string s) from by simp [go_sem])
    have c1 := (hb1.cell (p := ⟨w.heap.size, 1, none⟩) (by simp <;> omega)).trans (show _ = some (.slice A n c) from by simp [go_sem])
    have hz1 : w.heap.size < w1.heap.size := by have := hb1.size; simp at this; omega
    clear hb1
    rw [hcode]
    clear hcode
    go_wp2
    go_ret2
    exact ⟨none, 0, rfl, Own.nil (Nat.le_refl _), HB1.out⟩
set_option maxRecDepth 100000 in
set_option maxHeartbeats 1000000 in
theorem spec_perpendsOf (s : ByteArray) (A : Option Addr) (n c : Nat) (zs : List Course) (k u : Int) (w : World) (hs : s.size ≤ maxLen) (hn : n ≤ 16777216) (hl : zs.length = n) (h : Row Course.enc 2 w A zs) (hm : Texts zs) :
    Calls Try.prog 38 #[.agg #[.string s, .slice A n c], .int .i64 k, .int .i64 u] w fun e w' => ∃ A' c', e = .returned (.tuple #[.slice A' (perpsL s zs k u).length c', .int .i64 (bcode s zs [k] u)]) ∧ Own 2 1 encI w' w.heap.size w'.heap.size A' (perpsL s zs k u).length c' (perpsL s zs k u) ∧ Below w.heap.size w w' := by
  have HA := hide h
  have HL := hide hl
  have HM := hide hm
  clear h hl hm
  have HB0 := hide ((Below.refl w.heap.size w).alloc (Nat.le_refl _) (.cells #[.string s, .slice A n c] 62))
  rcases bcode_cases s zs [k] u with ⟨hcode, hv, ha, hu0, hu1⟩ | hcode | hcode
  · obtain ⟨hk0, hk1⟩ := all_one.1 ha
    obtain ⟨k, rfl⟩ : ∃ j : Nat, k = (j : Int) := ⟨k.toNat, by omega⟩
    obtain ⟨x, y, hz⟩ := course_get (zs := zs) k (bond_len hv).1
    have hok : Course.ok ⟨x, y⟩ = true := bond_course hv hz
    rw [show perpsL s zs (k : Int) u = perps x y u from by unfold perpsL; rw [if_pos hcode, courseAt_is hz]]
    rw [HL.out] at hz
    have HZ := hide hz
    have HV := hide hv
    rw [hcode]
    clear ha hz hv
    go_enter Try.func38, Try.ntmps38
    go_wp2_with fail
    refine (spec_l04Code w.heap.size s A n c zs k u _ hs hn HL.out (HA.out.below HB0.out) HM.out (by simp) (by simp [go_sem]) (by simp [go_sem])).mono ?_
    rintro e w1 ⟨rfl, hb1⟩
    have HB1 := hide (HB0.out.trans (hb1.mono (by simp)))
    have c0 := (hb1.cell (p := ⟨w.heap.size, 0, none⟩) (by simp)).trans (show _ = some (.string s) from by simp [go_sem])
    have c1 := (hb1.cell (p := ⟨w.heap.size, 1, none⟩) (by simp)).trans (show _ = some (.slice A n c) from by simp [go_sem])
    have hz1 : w.heap.size < w1.heap.size := by have := hb1.size; simp at this; omega
    clear hb1
    rw [hcode]
    clear hcode
    go_wp2_with fail
    refine (spec_l04At w.heap.size A n c zs k x y _ (by omega) hn HL.out (HA.out.below HB1.out) HZ.out hz1 c1).mono ?_
    rintro e w2 ⟨rfl, hb2⟩
    have HB2 := hide (HB1.out.trans (hb2.mono HB1.out.size))
    have hz2 : w.heap.size ≤ w2.heap.size := HB2.out.size
    clear hb2 c0 c1
    go_wp2_with fail
    refine (spec_l04Perpends x y u _ hok hu0 hu1).mono ?_
    rintro e w3 ⟨A', c', rfl, ho, hb3⟩
    have HB3 := hide (HB2.out.trans (hb3.mono hz2))
    have HO := hide ho
    clear hb3 ho
    go_wp2
    go_ret2
    exact ⟨A', c', rfl, ⟨HO.out.len, own_low1 HO.out.own hz2, HO.out.up, HO.out.hi_le⟩, HB3.out⟩
  · rw [show perpsL s zs k u = [] from by unfold perpsL; rw [if_neg (by omega)]]
    rw [hcode]
    go_enter Try.func38, Try.ntmps38
    go_wp2_with fail
    refine (spec_l04Code w.heap.size s A n c zs k u _ hs hn HL.out (HA.out.below HB0.out) HM.out (by simp) (by simp [go_sem]) (by simp [go_sem])).mono ?_
    rintro e w1 ⟨rfl, hb1⟩
    have HB1 := hide (HB0.out.trans (hb1.mono (by simp)))
    have c0 := (hb1.cell (p := ⟨w.heap.size, 0, none⟩) (by simp)).trans (show _ = some (.string s) from by simp [go_sem])
    have c1 := (hb1.cell (p := ⟨w.heap.size, 1, none⟩) (by simp)).trans (show _ = some (.slice A n c) from by simp [go_sem])
    have hz1 : w.heap.size < w1.heap.size := by have := hb1.size; simp at this; omega
    clear hb1
    rw [hcode]
    clear hcode
    go_wp2
    go_ret2
    exact ⟨none, 0, rfl, Own.nil (Nat.le_refl _), HB1.out⟩
  · rw [show perpsL s zs k u = [] from by unfold perpsL; rw [if_neg (by omega)]]
    rw [hcode]
    go_enter Try.func38, Try.ntmps38
    go_wp2_with fail
    refine (spec_l04Code w.heap.size s A n c zs k u _ hs hn HL.out (HA.out.below HB0.out) HM.out (by simp) (by simp [go_sem]) (by simp [go_sem])).mono ?_
    rintro e w1 ⟨rfl, hb1⟩
    have HB1 := hide (HB0.out.trans (hb1.mono (by simp)))
    have c0 := (hb1.cell (p := ⟨w.heap.size, 0, none⟩) (by simp)).trans (show _ = some (.string s) from by simp [go_sem])
    have c1 := (hb1.cell (p := ⟨w.heap.size, 1, none⟩) (by simp)).trans (show _ = some (.slice A n c) from by simp [go_sem])
    have hz1 : w.heap.size < w1.heap.size := by have := hb1.size; simp at this; omega
    clear hb1
    rw [hcode]
    clear hcode
    go_wp2
    go_ret2
    exact ⟨none, 0, rfl, Own.nil (Nat.le_refl _), HB1.out⟩
end Go.Proofs.Ytfjnhocmkafnbaa
