/-
  What is proved: the lap of two courses of a bond and the least lap of a bond, of the program and of the reference. Condition: lengths that fit.
-/
import Derived.Test.YtfjnhocmkafnbaaBCode2
import Derived.Test.YtfjnhocmkafnbaaLap
import Derived.Deep.RegionHeld3
namespace Go.Proofs.Ytfjnhocmkafnbaa
open Go.RowKit Go.PlainAid
set_option linter.unusedVariables false

noncomputable def lapB (zs : List Course) (a b u : Int) : Int := lapL (perps (courseAt zs a).lead (courseAt zs a).cycle u) (perps (courseAt zs b).lead (courseAt zs b).cycle u)
theorem perps_in {x y : ByteArray} {u : Int} (h : Course.ok ⟨x, y⟩ = true) (hu : 1 ≤ u) (hu2 : u ≤ 200) : ∀ v ∈ perps x y u, 0 ≤ v ∧ v ≤ 1000 := fun v hv => by
  have := perps_bd h hu hv
  omega
theorem perps_few {x y : ByteArray} {u : Int} (h : Course.ok ⟨x, y⟩ = true) (hu : 1 ≤ u) (hu2 : u ≤ 200) : (perps x y u).length ≤ 1000 := by
  rw [perps_length]
  have := cntQ_le h hu
  omega
theorem lapB_is {zs : List Course} {a b : Nat} {x y x2 y2 : ByteArray} (u : Int) (h : zs[a % zs.length]? = some ⟨x, y⟩) (h2 : zs[b % zs.length]? = some ⟨x2, y2⟩) : lapB zs (a : Int) (b : Int) u = lapL (perps x y u) (perps x2 y2 u) := by
  unfold lapB
  rw [courseAt_is h, courseAt_is h2]
theorem lap_perps_bd {x y x2 y2 : ByteArray} {u : Int} (h : Course.ok ⟨x, y⟩ = true) (h2 : Course.ok ⟨x2, y2⟩ = true) (hu : 1 ≤ u) (hu2 : u ≤ 200) : -1 ≤ lapL (perps x y u) (perps x2 y2 u) ∧ lapL (perps x y u) (perps x2 y2 u) ≤ 1000 :=
  lapL_bd (by omega) (perps_in h hu hu2) (perps_in h2 hu hu2)
theorem bcode_two (s : ByteArray) (zs : List Course) (a b u : Int) : bcode s zs [a, b] u = if bcode s zs [a] u = 0 then bcode s zs [b] u else bcode s zs [a] u := by
  by_cases h : bondOk s zs = true
  · by_cases ha : (0 ≤ a ∧ a ≤ 1000) ∧ 1 ≤ u ∧ u ≤ 200
    · rw [bcode_ok (ks := [a]) h ⟨all_one.2 ha.1, ha.2⟩, if_pos rfl]
      have e : [a, b].all (inP 0 1000) = [b].all (inP 0 1000) := by simp [inP, ha.1]
      unfold bcode
      rw [e]
    · have e1 : bcode s zs [a] u = 2 := bcode_out h (fun q => ha ⟨all_one.1 q.1, q.2⟩)
      have e2 : bcode s zs [a, b] u = 2 := bcode_out h (fun q => ha ⟨by
        have := q.1
        rw [List.all_cons, Bool.and_eq_true] at this
        exact of_decide_eq_true this.1, q.2⟩)
      rw [e1, e2]
      rfl
  · have h' : bondOk s zs = false := by simpa using h
    rw [bcode_bad h', bcode_bad h']
    rfl
theorem bcode_none (s : ByteArray) (zs : List Course) (u : Int) : bcode s zs [] u = bcode s zs [0] u := by
  unfold bcode
  simp [inP]
def lbN (c n : Int) : Int := if c = 0 ∧ 0 ≤ n then n else 0
def lbC (c n : Int) : Int := if c = 0 then (if n < 0 then 3 else 0) else c
theorem row_two_at (w : World) (k j : Int) (t : TypeId) (g : Nat) (hg : w.heap.size = g) : Row encI 1 (w.alloc (.cells #[.int .i64 k, .int .i64 j] t)) (some ⟨g, 0, none⟩) [k, j] := fun _ => by
  subst hg
  refine ⟨w.heap.size, 0, rfl, by simp, fun i x hi q v hv => ?_⟩
  match i, hi with
  | 0, hi =>
    obtain rfl := Option.some.inj hi
    match q, hv with
    | 0, hv =>
      obtain rfl := Option.some.inj hv
      simp [go_sem]
  | 1, hi =>
    obtain rfl := Option.some.inj hi
    match q, hv with
    | 0, hv =>
      obtain rfl := Option.some.inj hv
      simp [go_sem]
set_option maxRecDepth 100000 in
set_option maxHeartbeats 4000000 in
theorem impl_lapBetween (s : ByteArray) (A : Option Addr) (n c : Nat) (zs : List Course) (a b u : Int) (w : World) (hs : s.size ≤ maxLen) (hn : n ≤ 16777216) (hl : zs.length = n) (h : Row Course.enc 2 w A zs) (hm : Texts zs) :
    Calls Try.prog 39 #[.agg #[.string s, .slice A n c], .int .i64 a, .int .i64 b, .int .i64 u] w fun e w' => e = .returned (.tuple #[.int .i64 (lbN (bcode s zs [a, b] u) (lapB zs a b u)), .int .i64 (lbC (bcode s zs [a, b] u) (lapB zs a b u))]) ∧ Below w.heap.size w w' := by
  have HA := hide h
  have HL := hide hl
  have HM := hide hm
  clear h hl hm
  have HB0 := hide ((Below.refl w.heap.size w).alloc (Nat.le_refl _) (.cells #[.string s, .slice A n c] 62))
  have HBa := hide (HB0.out.alloc (by simp) (.cells #[.int .i64 a, .int .i64 b] 2))
  rcases bcode_cases s zs [a, b] u with ⟨hcode, hv, ha, hu0, hu1⟩ | hcode | hcode
  · obtain ⟨⟨a0, a1⟩, ⟨b0, b1⟩⟩ : (0 ≤ a ∧ a ≤ 1000) ∧ (0 ≤ b ∧ b ≤ 1000) := by simpa [inP] using ha
    obtain ⟨a, rfl⟩ : ∃ j : Nat, a = (j : Int) := ⟨a.toNat, by omega⟩
    obtain ⟨b, rfl⟩ : ∃ j : Nat, b = (j : Int) := ⟨b.toNat, by omega⟩
    obtain ⟨x, y, hz⟩ := course_get (zs := zs) a (bond_len hv).1
    obtain ⟨x2, y2, hz2⟩ := course_get (zs := zs) b (bond_len hv).1
    have hok : Course.ok ⟨x, y⟩ = true := bond_course hv hz
    have hok2 : Course.ok ⟨x2, y2⟩ = true := bond_course hv hz2
    rw [lapB_is u hz hz2]
    rw [HL.out] at hz hz2
    have HZ := hide hz
    have HZ2 := hide hz2
    have hbd := lap_perps_bd hok hok2 hu0 hu1
    rw [hcode]
    clear hz hz2 hv ha
    by_cases hneg : lapL (perps x y u) (perps x2 y2 u) < 0
    · rw [show lbN 0 (lapL (perps x y u) (perps x2 y2 u)) = 0 from by unfold lbN; rw [if_neg (by omega)], show lbC 0 (lapL (perps x y u) (perps x2 y2 u)) = 3 from by unfold lbC; rw [if_pos rfl, if_pos hneg]]
      have hd : decide (lapL (perps x y u) (perps x2 y2 u) < 0) = true := by simpa using hneg
      clear hneg hbd
      go_enter Try.func39, Try.ntmps39
      go_wp2_with fail
      refine (impl_bondCode s A n c zs u _ _ _ [a, b] _ hs hn HL.out (HA.out.below HBa.out) HM.out (by simp) rfl (row_two_at _ _ _ _ _ (by simp))).mono ?_
      rintro e w1 ⟨rfl, hb1⟩
      have BW := hide (HBa.out.trans (hb1.mono (by simp <;> omega)))
      have c0 := (hb1.cell (p := ⟨w.heap.size, 0, none⟩) (by simp <;> omega)).trans (show _ = some (.string s) from by simp [go_sem])
      have c1 := (hb1.cell (p := ⟨w.heap.size, 1, none⟩) (by simp <;> omega)).trans (show _ = some (.slice A n c) from by simp [go_sem])
      have hzW : w.heap.size < w1.heap.size := by have := hb1.size; simp at this; omega
      clear hb1
      rw [hcode]
      clear hcode
      go_wp2
      go_region_held3 (fun w' => w'.cell? ⟨w.heap.size, 0, none⟩ = some (.string s) ∧ w'.cell? ⟨w.heap.size, 1, none⟩ = some (.slice A n c))
        (first
          | go_keep
          | exact ⟨c0, c1⟩)
        (first
          | (go_at_call_of 100 (Value.int IntKind.i64 a)
             refine (impl_course s A n c zs a x y _ (by omega) hn HL.out (HA.out.below (by first | exact BW.out.drew | exact BW.out)) HZ.out).mono ?_
             rintro e v1 ⟨rfl, hb⟩
             have hv1 : w.heap.size < v1.heap.size := Nat.lt_of_lt_of_le hzW hb.size
             replace c0 := (hb.cell (p := ⟨w.heap.size, 0, none⟩) hzW).trans c0
             replace c1 := (hb.cell (p := ⟨w.heap.size, 1, none⟩) hzW).trans c1
             have Bv1 := hide (BW.out.drew.trans (hb.mono (Nat.le_of_lt hzW)))
             clear hb)
          | (go_at_call_of 101 (Value.string x)
             refine (impl_perpends x y u _ hok hu0 hu1).mono ?_
             rintro e v2 ⟨A1, C1, rfl, ho, hb⟩
             have hv2 : w.heap.size < v2.heap.size := Nat.lt_of_lt_of_le hv1 hb.size
             replace c0 := (hb.cell (p := ⟨w.heap.size, 0, none⟩) hv1).trans c0
             replace c1 := (hb.cell (p := ⟨w.heap.size, 1, none⟩) hv1).trans c1
             have Bv2 := hide (Bv1.out.trans (hb.mono (Nat.le_of_lt hv1)))
             have P1 := hide ho
             clear hb ho)
          | (go_at_call_of 100 (Value.int IntKind.i64 b)
             refine (impl_course s A n c zs b x2 y2 _ (by omega) hn HL.out (HA.out.below Bv2.out) HZ2.out).mono ?_
             rintro e v3 ⟨rfl, hb⟩
             have hv3 : w.heap.size < v3.heap.size := Nat.lt_of_lt_of_le hv2 hb.size
             replace c0 := (hb.cell (p := ⟨w.heap.size, 0, none⟩) hv2).trans c0
             replace c1 := (hb.cell (p := ⟨w.heap.size, 1, none⟩) hv2).trans c1
             have Bv3 := hide (Bv2.out.trans (hb.mono (Nat.le_of_lt hv2)))
             have P3 := hide (P1.out.below hb)
             clear hb P1)
          | (go_at_call_of 101 (Value.string x2)
             refine (impl_perpends x2 y2 u _ hok2 hu0 hu1).mono ?_
             rintro e v4 ⟨A2, C2, rfl, ho, hb⟩
             have hv4 : w.heap.size < v4.heap.size := Nat.lt_of_lt_of_le hv3 hb.size
             replace c0 := (hb.cell (p := ⟨w.heap.size, 0, none⟩) hv3).trans c0
             replace c1 := (hb.cell (p := ⟨w.heap.size, 1, none⟩) hv3).trans c1
             have Bv4 := hide (Bv3.out.trans (hb.mono (Nat.le_of_lt hv3)))
             have P4 := hide (P3.out.below hb)
             have Q4 := hide ho
             clear hb ho P3)
          | (go_at_call 107
             refine (quiet_below (impl_lap _ _ _ _ _ _ (perps x y u) (perps x2 y2 u) _ (perps_few hok hu0 hu1) (perps_few hok2 hu0 hu1) rfl rfl (P4.out.row (fun _ => rfl)) (Q4.out.row (fun _ => rfl)) (perps_in hok hu0 hu1) (perps_in hok2 hu0 hu1))).mono ?_
             rintro e v5 ⟨rfl, hb⟩
             have hv5 : w.heap.size < v5.heap.size := Nat.lt_of_lt_of_le hv4 hb.size
             replace c0 := (hb.cell (p := ⟨w.heap.size, 0, none⟩) hv4).trans c0
             replace c1 := (hb.cell (p := ⟨w.heap.size, 1, none⟩) hv4).trans c1
             have Bv5 := hide (Bv4.out.trans (hb.mono (Nat.le_of_lt hv4)))
             clear hb P4 Q4))
      go_wp2
      go_ret2
      exact ⟨rfl, Bv5.out⟩
    · rw [show lbN 0 (lapL (perps x y u) (perps x2 y2 u)) = lapL (perps x y u) (perps x2 y2 u) from by unfold lbN; rw [if_pos (by omega)], show lbC 0 (lapL (perps x y u) (perps x2 y2 u)) = 0 from by unfold lbC; rw [if_pos rfl, if_neg hneg]]
      have hd : decide (lapL (perps x y u) (perps x2 y2 u) < 0) = false := by simpa using hneg
      clear hneg hbd
      go_enter Try.func39, Try.ntmps39
      go_wp2_with fail
      refine (impl_bondCode s A n c zs u _ _ _ [a, b] _ hs hn HL.out (HA.out.below HBa.out) HM.out (by simp) rfl (row_two_at _ _ _ _ _ (by simp))).mono ?_
      rintro e w1 ⟨rfl, hb1⟩
      have BW := hide (HBa.out.trans (hb1.mono (by simp <;> omega)))
      have c0 := (hb1.cell (p := ⟨w.heap.size, 0, none⟩) (by simp <;> omega)).trans (show _ = some (.string s) from by simp [go_sem])
      have c1 := (hb1.cell (p := ⟨w.heap.size, 1, none⟩) (by simp <;> omega)).trans (show _ = some (.slice A n c) from by simp [go_sem])
      have hzW : w.heap.size < w1.heap.size := by have := hb1.size; simp at this; omega
      clear hb1
      rw [hcode]
      clear hcode
      go_wp2
      go_region_held3 (fun w' => w'.cell? ⟨w.heap.size, 0, none⟩ = some (.string s) ∧ w'.cell? ⟨w.heap.size, 1, none⟩ = some (.slice A n c))
        (first
          | go_keep
          | exact ⟨c0, c1⟩)
        (first
          | (go_at_call_of 100 (Value.int IntKind.i64 a)
             refine (impl_course s A n c zs a x y _ (by omega) hn HL.out (HA.out.below (by first | exact BW.out.drew | exact BW.out)) HZ.out).mono ?_
             rintro e v1 ⟨rfl, hb⟩
             have hv1 : w.heap.size < v1.heap.size := Nat.lt_of_lt_of_le hzW hb.size
             replace c0 := (hb.cell (p := ⟨w.heap.size, 0, none⟩) hzW).trans c0
             replace c1 := (hb.cell (p := ⟨w.heap.size, 1, none⟩) hzW).trans c1
             have Bv1 := hide (BW.out.drew.trans (hb.mono (Nat.le_of_lt hzW)))
             clear hb)
          | (go_at_call_of 101 (Value.string x)
             refine (impl_perpends x y u _ hok hu0 hu1).mono ?_
             rintro e v2 ⟨A1, C1, rfl, ho, hb⟩
             have hv2 : w.heap.size < v2.heap.size := Nat.lt_of_lt_of_le hv1 hb.size
             replace c0 := (hb.cell (p := ⟨w.heap.size, 0, none⟩) hv1).trans c0
             replace c1 := (hb.cell (p := ⟨w.heap.size, 1, none⟩) hv1).trans c1
             have Bv2 := hide (Bv1.out.trans (hb.mono (Nat.le_of_lt hv1)))
             have P1 := hide ho
             clear hb ho)
          | (go_at_call_of 100 (Value.int IntKind.i64 b)
             refine (impl_course s A n c zs b x2 y2 _ (by omega) hn HL.out (HA.out.below Bv2.out) HZ2.out).mono ?_
             rintro e v3 ⟨rfl, hb⟩
             have hv3 : w.heap.size < v3.heap.size := Nat.lt_of_lt_of_le hv2 hb.size
             replace c0 := (hb.cell (p := ⟨w.heap.size, 0, none⟩) hv2).trans c0
             replace c1 := (hb.cell (p := ⟨w.heap.size, 1, none⟩) hv2).trans c1
             have Bv3 := hide (Bv2.out.trans (hb.mono (Nat.le_of_lt hv2)))
             have P3 := hide (P1.out.below hb)
             clear hb P1)
          | (go_at_call_of 101 (Value.string x2)
             refine (impl_perpends x2 y2 u _ hok2 hu0 hu1).mono ?_
             rintro e v4 ⟨A2, C2, rfl, ho, hb⟩
             have hv4 : w.heap.size < v4.heap.size := Nat.lt_of_lt_of_le hv3 hb.size
             replace c0 := (hb.cell (p := ⟨w.heap.size, 0, none⟩) hv3).trans c0
             replace c1 := (hb.cell (p := ⟨w.heap.size, 1, none⟩) hv3).trans c1
             have Bv4 := hide (Bv3.out.trans (hb.mono (Nat.le_of_lt hv3)))
             have P4 := hide (P3.out.below hb)
             have Q4 := hide ho
             clear hb ho P3)
          | (go_at_call 107
             refine (quiet_below (impl_lap _ _ _ _ _ _ (perps x y u) (perps x2 y2 u) _ (perps_few hok hu0 hu1) (perps_few hok2 hu0 hu1) rfl rfl (P4.out.row (fun _ => rfl)) (Q4.out.row (fun _ => rfl)) (perps_in hok hu0 hu1) (perps_in hok2 hu0 hu1))).mono ?_
             rintro e v5 ⟨rfl, hb⟩
             have hv5 : w.heap.size < v5.heap.size := Nat.lt_of_lt_of_le hv4 hb.size
             replace c0 := (hb.cell (p := ⟨w.heap.size, 0, none⟩) hv4).trans c0
             replace c1 := (hb.cell (p := ⟨w.heap.size, 1, none⟩) hv4).trans c1
             have Bv5 := hide (Bv4.out.trans (hb.mono (Nat.le_of_lt hv4)))
             clear hb P4 Q4))
      go_wp2
      go_ret2
      exact ⟨rfl, Bv5.out⟩
  · rw [show lbN (bcode s zs [a, b] u) (lapB zs a b u) = 0 from by unfold lbN; rw [if_neg (by omega)], show lbC (bcode s zs [a, b] u) (lapB zs a b u) = 1 from by unfold lbC; rw [if_neg (by omega), hcode]]
    go_enter Try.func39, Try.ntmps39
    go_wp2_with fail
    refine (impl_bondCode s A n c zs u _ _ _ [a, b] _ hs hn HL.out (HA.out.below HBa.out) HM.out (by simp) rfl (row_two_at _ _ _ _ _ (by simp))).mono ?_
    rintro e w1 ⟨rfl, hb1⟩
    have BW := hide (HBa.out.trans (hb1.mono (by simp <;> omega)))
    have c0 := (hb1.cell (p := ⟨w.heap.size, 0, none⟩) (by simp <;> omega)).trans (show _ = some (.string s) from by simp [go_sem])
    have c1 := (hb1.cell (p := ⟨w.heap.size, 1, none⟩) (by simp <;> omega)).trans (show _ = some (.slice A n c) from by simp [go_sem])
    have hzW : w.heap.size < w1.heap.size := by have := hb1.size; simp at this; omega
    clear hb1
    rw [hcode]
    clear hcode
    go_wp2
    go_ret2
    exact ⟨rfl, BW.out⟩
  · rw [show lbN (bcode s zs [a, b] u) (lapB zs a b u) = 0 from by unfold lbN; rw [if_neg (by omega)], show lbC (bcode s zs [a, b] u) (lapB zs a b u) = 2 from by unfold lbC; rw [if_neg (by omega), hcode]]
    go_enter Try.func39, Try.ntmps39
    go_wp2_with fail
    refine (impl_bondCode s A n c zs u _ _ _ [a, b] _ hs hn HL.out (HA.out.below HBa.out) HM.out (by simp) rfl (row_two_at _ _ _ _ _ (by simp))).mono ?_
    rintro e w1 ⟨rfl, hb1⟩
    have BW := hide (HBa.out.trans (hb1.mono (by simp <;> omega)))
    have c0 := (hb1.cell (p := ⟨w.heap.size, 0, none⟩) (by simp <;> omega)).trans (show _ = some (.string s) from by simp [go_sem])
    have c1 := (hb1.cell (p := ⟨w.heap.size, 1, none⟩) (by simp <;> omega)).trans (show _ = some (.slice A n c) from by simp [go_sem])
    have hzW : w.heap.size < w1.heap.size := by have := hb1.size; simp at this; omega
    clear hb1
    rw [hcode]
    clear hcode
    go_wp2
    go_ret2
    exact ⟨rfl, BW.out⟩
end Go.Proofs.Ytfjnhocmkafnbaa
