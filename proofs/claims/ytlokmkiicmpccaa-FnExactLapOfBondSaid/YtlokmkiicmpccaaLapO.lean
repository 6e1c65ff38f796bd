/-
  What is proved: the least lap of a bond, of the program and of the reference. Condition: lengths that fit.
-/
import Derived.Test.YtlokmkiicmpccaaLapB
namespace Go.Proofs.Ytlokmkiicmpccaa
open Go.RowKit Go.PlainAid
set_option linter.unusedVariables false

def lobStep (n m : Int) : Int := if 0 ≤ n ∧ (m < 0 ∨ n < m) then n else m
noncomputable def lobTo (zs : List Course) (u : Int) : Nat → Int
  | 0 => -1
  | k + 1 => lobStep (lapB zs k (k + 1 : Nat) u) (lobTo zs u k)
theorem lobStep_take {n m : Int} (h : 0 ≤ n) (h2 : m < 0 ∨ n < m) : lobStep n m = n := by unfold lobStep; rw [if_pos ⟨h, h2⟩]
theorem lobStep_neg {n m : Int} (h : ¬ 0 ≤ n) : lobStep n m = m := by unfold lobStep; rw [if_neg (fun q => h q.1)]
theorem lobStep_keep {n m : Int} (h : ¬ m < 0) (h2 : ¬ n < m) : lobStep n m = m := by unfold lobStep; rw [if_neg (fun q => by omega)]
theorem lobTo_bd {s : ByteArray} {zs : List Course} {u : Int} (hv : bondOk s zs = true) (hu : 1 ≤ u) (hu2 : u ≤ 200) (k : Nat) : -1 ≤ lobTo zs u k ∧ lobTo zs u k ≤ 1000 := by
  induction k with
  | zero => exact ⟨by show (-1 : Int) ≤ -1; omega, by show (-1 : Int) ≤ 1000; omega⟩
  | succ k ih =>
    obtain ⟨x, y, hz⟩ := course_get (zs := zs) k (bond_len hv).1
    obtain ⟨x2, y2, hz2⟩ := course_get (zs := zs) (k + 1) (bond_len hv).1
    have hb := lap_perps_bd (bond_course hv hz) (bond_course hv hz2) hu hu2
    show -1 ≤ lobStep (lapB zs k (k + 1 : Nat) u) (lobTo zs u k) ∧ lobStep (lapB zs k (k + 1 : Nat) u) (lobTo zs u k) ≤ 1000
    rw [lapB_is u hz hz2]
    unfold lobStep
    split <;> omega
set_option maxRecDepth 100000 in
set_option maxHeartbeats 4000000 in
theorem impl_lapOfBond (s : ByteArray) (A : Option Addr) (n c : Nat) (zs : List Course) (u : Int) (w : World) (hs : s.size ≤ maxLen) (hn : n ≤ 16777216) (hl : zs.length = n) (h : Row Course.enc 2 w A zs) (hm : Texts zs) :
    Calls Try.prog 29 #[.agg #[.string s, .slice A n c], .int .i64 u] w fun e w' => e = .returned (.tuple #[.int .i64 (lbN (bcode s zs [] u) (lobTo zs u zs.length)), .int .i64 (lbC (bcode s zs [] u) (lobTo zs u zs.length))]) ∧ Below w.heap.size w w' := by
  have HA := hide h
  have HL := hide hl
  have HM := hide hm
  clear h hl hm
  have HB0 := hide ((Below.refl w.heap.size w).alloc (Nat.le_refl _) (.cells #[.string s, .slice A n c] 29))
  rcases bcode_cases s zs [] u with ⟨hcode, hv, -, hu0, hu1⟩ | hcode | hcode
  · have HV := hide hv
    have hn1 := (bond_len hv).1
    have hn8 := (bond_len hv).2
    rw [HL.out] at hn1 hn8 ⊢
    rw [hcode]
    have HF : Hid (lbN 0 (lobTo zs u n) = lbN 0 (lobTo zs u n)) := rfl
    clear hv
    go_enter Try.func29, Try.ntmps29
    go_wp2_with fail
    refine (impl_bondCode s A n c zs u none 0 0 [] _ hs hn HL.out (HA.out.below HB0.out) HM.out (by simp) rfl Row.nil).mono ?_
    rintro e w1 ⟨rfl, hb1⟩
    have BW1 := hide (show Below (w.heap.size + 1) (w.alloc (.cells #[.string s, .slice A n c] 29)) w1 from hb1.mono (by simp))
    have c1 := (BW1.out.cell (p := ⟨w.heap.size, 1, none⟩) (by simp)).trans (show _ = some (.slice A n c) from by simp [go_sem])
    clear hb1
    rw [hcode]
    clear hcode
    go_wp2
    go_loopw [7, 19] (fun v i wr => ∃ k : Nat, k ≤ n ∧ i = .int .i64 k ∧ v = .int .i64 (lobTo zs u k) ∧ Hid (Below (w.heap.size + 1) (w.alloc (.cells #[.string s, .slice A n c] 29)) wr)) (fun _ i _ => n - (intOf i).toNat)
    case atStart => exact ⟨0, by omega, rfl, rfl, BW1⟩
    case round =>
      obtain ⟨k, hk, rfl, rfl, HB⟩ := hrel
      clear BW1 c1
      have hz := HB.out.size
      rw [show (w.alloc (.cells #[.string s, .slice A n c] 29)).heap.size = w.heap.size + 1 from by simp] at hz
      have hzW : w.heap.size < wr.heap.size := hz
      have c0 := (HB.out.cell (p := ⟨w.heap.size, 0, none⟩) (by simp)).trans (show _ = some (.string s) from by simp [go_sem])
      have c1 := (HB.out.cell (p := ⟨w.heap.size, 1, none⟩) (by simp)).trans (show _ = some (.slice A n c) from by simp [go_sem])
      have HBW := hide (HB0.out.trans (HB.out.mono (Nat.le_succ _)))
      have BW := HB
      have HD := hide (fun (W : World) (q : Below (w.heap.size + 1) (w.alloc (.cells #[.string s, .slice A n c] 29)) W) => HB0.out.trans (q.mono (Nat.le_succ _)))
      have hmb := lobTo_bd HV.out hu0 hu1 k
      obtain ⟨hm0, hm1⟩ := hmb
      by_cases hlt : k < n
      · obtain ⟨x, y, hz1⟩ := course_get (zs := zs) k (bond_len HV.out).1
        obtain ⟨x2, y2, hz2⟩ := course_get (zs := zs) (k + 1) (bond_len HV.out).1
        have hok : Course.ok ⟨x, y⟩ = true := bond_course HV.out hz1
        have hok2 : Course.ok ⟨x2, y2⟩ = true := bond_course HV.out hz2
        have HS := hide (show lobTo zs u (k + 1) = lobStep (lapL (perps x y u) (perps x2 y2 u)) (lobTo zs u k) from by rw [← lapB_is u hz1 hz2]; rfl)
        rw [HL.out] at hz1 hz2
        have HZ := hide hz1
        have HZ2 := hide hz2
        obtain ⟨hl0, hl1⟩ := lap_perps_bd hok hok2 hu0 hu1
        clear hz1 hz2
        have hki : (k : Int) < (n : Int) := by omega
        have HK1 := hide (show (k : Int) + 1 = ((k + 1 : Nat) : Int) from by omega)
        have hw1 := Go.IntWalk.i64_in ((k : Int) + 1) ⟨by omega, by omega⟩
        generalize lobTo zs u k = m at *
        generalize hN : lapL (perps x y u) (perps x2 y2 u) = N at *
        have HN := hide hN
        clear hN
        by_cases h0 : 0 ≤ N
        case neg =>
          have HM := hide (lobStep_neg (m := m) h0)
          have hd0 : decide (0 ≤ N) = false := by simpa using h0
          go_wp2
          go_region_held3 (fun w' => w'.cell? ⟨w.heap.size, 0, none⟩ = some (.string s) ∧ w'.cell? ⟨w.heap.size, 1, none⟩ = some (.slice A n c))
            (first
              | go_keep
              | exact ⟨c0, c1⟩)
            (first
              | (go_at_call_of 53 (Value.int IntKind.i64 k)
                 refine (impl_course s A n c zs k x y _ (by omega) hn HL.out (HA.out.below (HD.out _ BW.out.drew)) HZ.out).mono ?_
                 rintro e v1 ⟨rfl, hb⟩
                 have hv1 : w.heap.size < v1.heap.size := Nat.lt_of_lt_of_le hzW hb.size
                 replace c0 := (hb.cell (p := ⟨w.heap.size, 0, none⟩) hzW).trans c0
                 replace c1 := (hb.cell (p := ⟨w.heap.size, 1, none⟩) hzW).trans c1
                 have Bv1 := hide (BW.out.drew.trans (hb.mono hzW))
                 clear hb)
              | (go_at_call_of 58 (Value.string x)
                 refine (impl_perpends x y u _ hok hu0 hu1).mono ?_
                 rintro e v2 ⟨A1, C1, rfl, ho, hb⟩
                 have hv2 : w.heap.size < v2.heap.size := Nat.lt_of_lt_of_le hv1 hb.size
                 replace c0 := (hb.cell (p := ⟨w.heap.size, 0, none⟩) hv1).trans c0
                 replace c1 := (hb.cell (p := ⟨w.heap.size, 1, none⟩) hv1).trans c1
                 have Bv2 := hide (Bv1.out.trans (hb.mono hv1))
                 have P1 := hide ho
                 clear hb ho)
              | (go_at_call 53
                 (first | rw [HK1.out] | (rw [hw1, HK1.out]) | skip)
                 refine (impl_course s A n c zs (k + 1) x2 y2 _ (by omega) hn HL.out (HA.out.below (HD.out _ Bv2.out)) HZ2.out).mono ?_
                 rintro e v3 ⟨rfl, hb⟩
                 have hv3 : w.heap.size < v3.heap.size := Nat.lt_of_lt_of_le hv2 hb.size
                 replace c0 := (hb.cell (p := ⟨w.heap.size, 0, none⟩) hv2).trans c0
                 replace c1 := (hb.cell (p := ⟨w.heap.size, 1, none⟩) hv2).trans c1
                 have Bv3 := hide (Bv2.out.trans (hb.mono hv2))
                 have P3 := hide (P1.out.below hb)
                 clear hb P1)
              | (go_at_call_of 58 (Value.string x2)
                 refine (impl_perpends x2 y2 u _ hok2 hu0 hu1).mono ?_
                 rintro e v4 ⟨A2, C2, rfl, ho, hb⟩
                 have hv4 : w.heap.size < v4.heap.size := Nat.lt_of_lt_of_le hv3 hb.size
                 replace c0 := (hb.cell (p := ⟨w.heap.size, 0, none⟩) hv3).trans c0
                 replace c1 := (hb.cell (p := ⟨w.heap.size, 1, none⟩) hv3).trans c1
                 have Bv4 := hide (Bv3.out.trans (hb.mono hv3))
                 have P4 := hide (P3.out.below hb)
                 have Q4 := hide ho
                 clear hb ho P3)
              | (go_at_call 57
                 refine (quiet_below (impl_lap _ _ _ _ _ _ (perps x y u) (perps x2 y2 u) _ (perps_few hok hu0 hu1) (perps_few hok2 hu0 hu1) rfl rfl (P4.out.row (fun _ => rfl)) (Q4.out.row (fun _ => rfl)) (perps_in hok hu0 hu1) (perps_in hok2 hu0 hu1))).mono ?_
                 rintro e v5 ⟨rfl, hb⟩
                 have hv5 : w.heap.size < v5.heap.size := Nat.lt_of_lt_of_le hv4 hb.size
                 replace c0 := (hb.cell (p := ⟨w.heap.size, 0, none⟩) hv4).trans c0
                 replace c1 := (hb.cell (p := ⟨w.heap.size, 1, none⟩) hv4).trans c1
                 have Bv5 := hide (Bv4.out.trans (hb.mono hv4))
                 clear hb P4 Q4))
          rw [HN.out]
          have HB' := Bv5
          go_wp2
          go_roundw
          case rel => exact ⟨k + 1, by omega, by go_num, by rw [HS.out, HM.out], HB'⟩
          case measure => simp [intOf]; omega
        by_cases h1 : m < 0
        case pos =>
          have HM := hide (lobStep_take (m := m) h0 (.inl h1))
          go_wp2
          go_region_held3 (fun w' => w'.cell? ⟨w.heap.size, 0, none⟩ = some (.string s) ∧ w'.cell? ⟨w.heap.size, 1, none⟩ = some (.slice A n c))
            (first
              | go_keep
              | exact ⟨c0, c1⟩)
            (first
              | (go_at_call_of 53 (Value.int IntKind.i64 k)
                 refine (impl_course s A n c zs k x y _ (by omega) hn HL.out (HA.out.below (HD.out _ BW.out.drew)) HZ.out).mono ?_
                 rintro e v1 ⟨rfl, hb⟩
                 have hv1 : w.heap.size < v1.heap.size := Nat.lt_of_lt_of_le hzW hb.size
                 replace c0 := (hb.cell (p := ⟨w.heap.size, 0, none⟩) hzW).trans c0
                 replace c1 := (hb.cell (p := ⟨w.heap.size, 1, none⟩) hzW).trans c1
                 have Bv1 := hide (BW.out.drew.trans (hb.mono hzW))
                 clear hb)
              | (go_at_call_of 58 (Value.string x)
                 refine (impl_perpends x y u _ hok hu0 hu1).mono ?_
                 rintro e v2 ⟨A1, C1, rfl, ho, hb⟩
                 have hv2 : w.heap.size < v2.heap.size := Nat.lt_of_lt_of_le hv1 hb.size
                 replace c0 := (hb.cell (p := ⟨w.heap.size, 0, none⟩) hv1).trans c0
                 replace c1 := (hb.cell (p := ⟨w.heap.size, 1, none⟩) hv1).trans c1
                 have Bv2 := hide (Bv1.out.trans (hb.mono hv1))
                 have P1 := hide ho
                 clear hb ho)
              | (go_at_call 53
                 (first | rw [HK1.out] | (rw [hw1, HK1.out]) | skip)
                 refine (impl_course s A n c zs (k + 1) x2 y2 _ (by omega) hn HL.out (HA.out.below (HD.out _ Bv2.out)) HZ2.out).mono ?_
                 rintro e v3 ⟨rfl, hb⟩
                 have hv3 : w.heap.size < v3.heap.size := Nat.lt_of_lt_of_le hv2 hb.size
                 replace c0 := (hb.cell (p := ⟨w.heap.size, 0, none⟩) hv2).trans c0
                 replace c1 := (hb.cell (p := ⟨w.heap.size, 1, none⟩) hv2).trans c1
                 have Bv3 := hide (Bv2.out.trans (hb.mono hv2))
                 have P3 := hide (P1.out.below hb)
                 clear hb P1)
              | (go_at_call_of 58 (Value.string x2)
                 refine (impl_perpends x2 y2 u _ hok2 hu0 hu1).mono ?_
                 rintro e v4 ⟨A2, C2, rfl, ho, hb⟩
                 have hv4 : w.heap.size < v4.heap.size := Nat.lt_of_lt_of_le hv3 hb.size
                 replace c0 := (hb.cell (p := ⟨w.heap.size, 0, none⟩) hv3).trans c0
                 replace c1 := (hb.cell (p := ⟨w.heap.size, 1, none⟩) hv3).trans c1
                 have Bv4 := hide (Bv3.out.trans (hb.mono hv3))
                 have P4 := hide (P3.out.below hb)
                 have Q4 := hide ho
                 clear hb ho P3)
              | (go_at_call 57
                 refine (quiet_below (impl_lap _ _ _ _ _ _ (perps x y u) (perps x2 y2 u) _ (perps_few hok hu0 hu1) (perps_few hok2 hu0 hu1) rfl rfl (P4.out.row (fun _ => rfl)) (Q4.out.row (fun _ => rfl)) (perps_in hok hu0 hu1) (perps_in hok2 hu0 hu1))).mono ?_
                 rintro e v5 ⟨rfl, hb⟩
                 have hv5 : w.heap.size < v5.heap.size := Nat.lt_of_lt_of_le hv4 hb.size
                 replace c0 := (hb.cell (p := ⟨w.heap.size, 0, none⟩) hv4).trans c0
                 replace c1 := (hb.cell (p := ⟨w.heap.size, 1, none⟩) hv4).trans c1
                 have Bv5 := hide (Bv4.out.trans (hb.mono hv4))
                 clear hb P4 Q4))
          rw [HN.out]
          have HB' := Bv5
          go_wp2
          go_roundw
          case rel => exact ⟨k + 1, by omega, by go_num, by rw [HS.out, HM.out], HB'⟩
          case measure => simp [intOf]; omega
        by_cases h2 : N < m
        case pos =>
          have HM := hide (lobStep_take (m := m) h0 (.inr h2))
          go_wp2
          go_region_held3 (fun w' => w'.cell? ⟨w.heap.size, 0, none⟩ = some (.string s) ∧ w'.cell? ⟨w.heap.size, 1, none⟩ = some (.slice A n c))
            (first
              | go_keep
              | exact ⟨c0, c1⟩)
            (first
              | (go_at_call_of 53 (Value.int IntKind.i64 k)
                 refine (impl_course s A n c zs k x y _ (by omega) hn HL.out (HA.out.below (HD.out _ BW.out.drew)) HZ.out).mono ?_
                 rintro e v1 ⟨rfl, hb⟩
                 have hv1 : w.heap.size < v1.heap.size := Nat.lt_of_lt_of_le hzW hb.size
                 replace c0 := (hb.cell (p := ⟨w.heap.size, 0, none⟩) hzW).trans c0
                 replace c1 := (hb.cell (p := ⟨w.heap.size, 1, none⟩) hzW).trans c1
                 have Bv1 := hide (BW.out.drew.trans (hb.mono hzW))
                 clear hb)
              | (go_at_call_of 58 (Value.string x)
                 refine (impl_perpends x y u _ hok hu0 hu1).mono ?_
                 rintro e v2 ⟨A1, C1, rfl, ho, hb⟩
                 have hv2 : w.heap.size < v2.heap.size := Nat.lt_of_lt_of_le hv1 hb.size
                 replace c0 := (hb.cell (p := ⟨w.heap.size, 0, none⟩) hv1).trans c0
                 replace c1 := (hb.cell (p := ⟨w.heap.size, 1, none⟩) hv1).trans c1
                 have Bv2 := hide (Bv1.out.trans (hb.mono hv1))
                 have P1 := hide ho
                 clear hb ho)
              | (go_at_call 53
                 (first | rw [HK1.out] | (rw [hw1, HK1.out]) | skip)
                 refine (impl_course s A n c zs (k + 1) x2 y2 _ (by omega) hn HL.out (HA.out.below (HD.out _ Bv2.out)) HZ2.out).mono ?_
                 rintro e v3 ⟨rfl, hb⟩
                 have hv3 : w.heap.size < v3.heap.size := Nat.lt_of_lt_of_le hv2 hb.size
                 replace c0 := (hb.cell (p := ⟨w.heap.size, 0, none⟩) hv2).trans c0
                 replace c1 := (hb.cell (p := ⟨w.heap.size, 1, none⟩) hv2).trans c1
                 have Bv3 := hide (Bv2.out.trans (hb.mono hv2))
                 have P3 := hide (P1.out.below hb)
                 clear hb P1)
              | (go_at_call_of 58 (Value.string x2)
                 refine (impl_perpends x2 y2 u _ hok2 hu0 hu1).mono ?_
                 rintro e v4 ⟨A2, C2, rfl, ho, hb⟩
                 have hv4 : w.heap.size < v4.heap.size := Nat.lt_of_lt_of_le hv3 hb.size
                 replace c0 := (hb.cell (p := ⟨w.heap.size, 0, none⟩) hv3).trans c0
                 replace c1 := (hb.cell (p := ⟨w.heap.size, 1, none⟩) hv3).trans c1
                 have Bv4 := hide (Bv3.out.trans (hb.mono hv3))
                 have P4 := hide (P3.out.below hb)
                 have Q4 := hide ho
                 clear hb ho P3)
              | (go_at_call 57
                 refine (quiet_below (impl_lap _ _ _ _ _ _ (perps x y u) (perps x2 y2 u) _ (perps_few hok hu0 hu1) (perps_few hok2 hu0 hu1) rfl rfl (P4.out.row (fun _ => rfl)) (Q4.out.row (fun _ => rfl)) (perps_in hok hu0 hu1) (perps_in hok2 hu0 hu1))).mono ?_
                 rintro e v5 ⟨rfl, hb⟩
                 have hv5 : w.heap.size < v5.heap.size := Nat.lt_of_lt_of_le hv4 hb.size
                 replace c0 := (hb.cell (p := ⟨w.heap.size, 0, none⟩) hv4).trans c0
                 replace c1 := (hb.cell (p := ⟨w.heap.size, 1, none⟩) hv4).trans c1
                 have Bv5 := hide (Bv4.out.trans (hb.mono hv4))
                 clear hb P4 Q4))
          rw [HN.out]
          have HB' := Bv5
          go_wp2
          go_roundw
          case rel => exact ⟨k + 1, by omega, by go_num, by rw [HS.out, HM.out], HB'⟩
          case measure => simp [intOf]; omega
        have HM := hide (lobStep_keep (n := N) h1 h2)
        go_wp2
        go_region_held3 (fun w' => w'.cell? ⟨w.heap.size, 0, none⟩ = some (.string s) ∧ w'.cell? ⟨w.heap.size, 1, none⟩ = some (.slice A n c))
          (first
            | go_keep
            | exact ⟨c0, c1⟩)
          (first
            | (go_at_call_of 53 (Value.int IntKind.i64 k)
               refine (impl_course s A n c zs k x y _ (by omega) hn HL.out (HA.out.below (HD.out _ BW.out.drew)) HZ.out).mono ?_
               rintro e v1 ⟨rfl, hb⟩
               have hv1 : w.heap.size < v1.heap.size := Nat.lt_of_lt_of_le hzW hb.size
               replace c0 := (hb.cell (p := ⟨w.heap.size, 0, none⟩) hzW).trans c0
               replace c1 := (hb.cell (p := ⟨w.heap.size, 1, none⟩) hzW).trans c1
               have Bv1 := hide (BW.out.drew.trans (hb.mono hzW))
               clear hb)
            | (go_at_call_of 58 (Value.string x)
               refine (impl_perpends x y u _ hok hu0 hu1).mono ?_
               rintro e v2 ⟨A1, C1, rfl, ho, hb⟩
               have hv2 : w.heap.size < v2.heap.size := Nat.lt_of_lt_of_le hv1 hb.size
               replace c0 := (hb.cell (p := ⟨w.heap.size, 0, none⟩) hv1).trans c0
               replace c1 := (hb.cell (p := ⟨w.heap.size, 1, none⟩) hv1).trans c1
               have Bv2 := hide (Bv1.out.trans (hb.mono hv1))
               have P1 := hide ho
               clear hb ho)
            | (go_at_call 53
               (first | rw [HK1.out] | (rw [hw1, HK1.out]) | skip)
               refine (impl_course s A n c zs (k + 1) x2 y2 _ (by omega) hn HL.out (HA.out.below (HD.out _ Bv2.out)) HZ2.out).mono ?_
               rintro e v3 ⟨rfl, hb⟩
               have hv3 : w.heap.size < v3.heap.size := Nat.lt_of_lt_of_le hv2 hb.size
               replace c0 := (hb.cell (p := ⟨w.heap.size, 0, none⟩) hv2).trans c0
               replace c1 := (hb.cell (p := ⟨w.heap.size, 1, none⟩) hv2).trans c1
               have Bv3 := hide (Bv2.out.trans (hb.mono hv2))
               have P3 := hide (P1.out.below hb)
               clear hb P1)
            | (go_at_call_of 58 (Value.string x2)
               refine (impl_perpends x2 y2 u _ hok2 hu0 hu1).mono ?_
               rintro e v4 ⟨A2, C2, rfl, ho, hb⟩
               have hv4 : w.heap.size < v4.heap.size := Nat.lt_of_lt_of_le hv3 hb.size
               replace c0 := (hb.cell (p := ⟨w.heap.size, 0, none⟩) hv3).trans c0
               replace c1 := (hb.cell (p := ⟨w.heap.size, 1, none⟩) hv3).trans c1
               have Bv4 := hide (Bv3.out.trans (hb.mono hv3))
               have P4 := hide (P3.out.below hb)
               have Q4 := hide ho
               clear hb ho P3)
            | (go_at_call 57
               refine (quiet_below (impl_lap _ _ _ _ _ _ (perps x y u) (perps x2 y2 u) _ (perps_few hok hu0 hu1) (perps_few hok2 hu0 hu1) rfl rfl (P4.out.row (fun _ => rfl)) (Q4.out.row (fun _ => rfl)) (perps_in hok hu0 hu1) (perps_in hok2 hu0 hu1))).mono ?_
               rintro e v5 ⟨rfl, hb⟩
               have hv5 : w.heap.size < v5.heap.size := Nat.lt_of_lt_of_le hv4 hb.size
               replace c0 := (hb.cell (p := ⟨w.heap.size, 0, none⟩) hv4).trans c0
               replace c1 := (hb.cell (p := ⟨w.heap.size, 1, none⟩) hv4).trans c1
               have Bv5 := hide (Bv4.out.trans (hb.mono hv4))
               clear hb P4 Q4))
        rw [HN.out]
        have HB' := Bv5
        go_wp2
        go_roundw
        case rel => exact ⟨k + 1, by omega, by go_num, by rw [HS.out, HM.out], HB'⟩
        case measure => simp [intOf]; omega
      · obtain rfl : k = n := by omega
        by_cases hneg : lobTo zs u k < 0
        · have e1 := hide (show lbN 0 (lobTo zs u k) = 0 from by unfold lbN; rw [if_neg (by omega)])
          have e2 := hide (show lbC 0 (lobTo zs u k) = 3 from by unfold lbC; rw [if_pos rfl, if_pos hneg])
          go_wp2
          go_ret2
          exact ⟨by rw [e1.out, e2.out]; rfl, HBW.out⟩
        · have e1 := hide (show lbN 0 (lobTo zs u k) = lobTo zs u k from by unfold lbN; rw [if_pos (by omega)])
          have e2 := hide (show lbC 0 (lobTo zs u k) = 0 from by unfold lbC; rw [if_pos rfl, if_neg hneg])
          go_wp2
          go_ret2
          exact ⟨by rw [e1.out, e2.out]; rfl, HBW.out⟩
  · rw [show lbN (bcode s zs [] u) (lobTo zs u zs.length) = 0 from by unfold lbN; rw [if_neg (by omega)], show lbC (bcode s zs [] u) (lobTo zs u zs.length) = 1 from by unfold lbC; rw [if_neg (by omega), hcode]]
    go_enter Try.func29, Try.ntmps29
    go_wp2_with fail
    refine (impl_bondCode s A n c zs u none 0 0 [] _ hs hn HL.out (HA.out.below HB0.out) HM.out (by simp) rfl Row.nil).mono ?_
    rintro e w1 ⟨rfl, hb1⟩
    have BW1 := hide (show Below (w.heap.size + 1) (w.alloc (.cells #[.string s, .slice A n c] 29)) w1 from hb1.mono (by simp))
    have c1 := (BW1.out.cell (p := ⟨w.heap.size, 1, none⟩) (by simp)).trans (show _ = some (.slice A n c) from by simp [go_sem])
    clear hb1
    rw [hcode]
    clear hcode
    go_wp2
    go_ret2
    exact ⟨rfl, HB0.out.trans (BW1.out.mono (Nat.le_succ _))⟩
  · rw [show lbN (bcode s zs [] u) (lobTo zs u zs.length) = 0 from by unfold lbN; rw [if_neg (by omega)], show lbC (bcode s zs [] u) (lobTo zs u zs.length) = 2 from by unfold lbC; rw [if_neg (by omega), hcode]]
    go_enter Try.func29, Try.ntmps29
    go_wp2_with fail
    refine (impl_bondCode s A n c zs u none 0 0 [] _ hs hn HL.out (HA.out.below HB0.out) HM.out (by simp) rfl Row.nil).mono ?_
    rintro e w1 ⟨rfl, hb1⟩
    have BW1 := hide (show Below (w.heap.size + 1) (w.alloc (.cells #[.string s, .slice A n c] 29)) w1 from hb1.mono (by simp))
    have c1 := (BW1.out.cell (p := ⟨w.heap.size, 1, none⟩) (by simp)).trans (show _ = some (.slice A n c) from by simp [go_sem])
    clear hb1
    rw [hcode]
    clear hcode
    go_wp2
    go_ret2
    exact ⟨rfl, HB0.out.trans (BW1.out.mono (Nat.le_succ _))⟩
set_option maxRecDepth 100000 in
set_option maxHeartbeats 4000000 in
theorem spec_lapOfBond (s : ByteArray) (A : Option Addr) (n c : Nat) (zs : List Course) (u : Int) (w : World) (hs : s.size ≤ maxLen) (hn : n ≤ 16777216) (hl : zs.length = n) (h : Row Course.enc 2 w A zs) (hm : Texts zs) :
    Calls Try.prog 28 #[.agg #[.string s, .slice A n c], .int .i64 u] w fun e w' => e = .returned (.tuple #[.int .i64 (lbN (bcode s zs [] u) (lobTo zs u zs.length)), .int .i64 (lbC (bcode s zs [] u) (lobTo zs u zs.length))]) ∧ Below w.heap.size w w' := by
  have HA := hide h
  have HL := hide hl
  have HM := hide hm
  clear h hl hm
  have HB0 := hide ((Below.refl w.heap.size w).alloc (Nat.le_refl _) (.cells #[.string s, .slice A n c] 29))
  rcases bcode_cases s zs [] u with ⟨hcode, hv, -, hu0, hu1⟩ | hcode | hcode
  · have HV := hide hv
    have hn1 := (bond_len hv).1
    have hn8 := (bond_len hv).2
    rw [HL.out] at hn1 hn8 ⊢
    rw [hcode]
    rw [bcode_none] at hcode
    have HF : Hid (lbN 0 (lobTo zs u n) = lbN 0 (lobTo zs u n)) := rfl
    clear hv
    go_enter Try.func28, Try.ntmps28
    go_wp2_with fail
    refine (spec_l04Code w.heap.size s A n c zs 0 u _ hs hn HL.out (HA.out.below HB0.out) HM.out (by simp) (by simp [go_sem]) (by simp [go_sem])).mono ?_
    rintro e w1 ⟨rfl, hb1⟩
    have BW1 := hide (show Below (w.heap.size + 1) (w.alloc (.cells #[.string s, .slice A n c] 29)) w1 from hb1.mono (by simp))
    have c1 := (BW1.out.cell (p := ⟨w.heap.size, 1, none⟩) (by simp)).trans (show _ = some (.slice A n c) from by simp [go_sem])
    clear hb1
    rw [hcode]
    clear hcode
    go_wp2
    go_loopw [7, 8] (fun v i wr => ∃ k : Nat, k ≤ n ∧ i = .int .i64 k ∧ v = .int .i64 (lobTo zs u k) ∧ Hid (Below (w.heap.size + 1) (w.alloc (.cells #[.string s, .slice A n c] 29)) wr)) (fun _ i _ => n - (intOf i).toNat)
    case atStart => exact ⟨0, by omega, rfl, rfl, BW1⟩
    case round =>
      obtain ⟨k, hk, rfl, rfl, HB⟩ := hrel
      clear BW1 c1
      have hz := HB.out.size
      rw [show (w.alloc (.cells #[.string s, .slice A n c] 29)).heap.size = w.heap.size + 1 from by simp] at hz
      have hzW : w.heap.size < wr.heap.size := hz
      have c0 := (HB.out.cell (p := ⟨w.heap.size, 0, none⟩) (by simp)).trans (show _ = some (.string s) from by simp [go_sem])
      have c1 := (HB.out.cell (p := ⟨w.heap.size, 1, none⟩) (by simp)).trans (show _ = some (.slice A n c) from by simp [go_sem])
      have HBW := hide (HB0.out.trans (HB.out.mono (Nat.le_succ _)))
      have BW := HB
      have HD := hide (fun (W : World) (q : Below (w.heap.size + 1) (w.alloc (.cells #[.string s, .slice A n c] 29)) W) => HB0.out.trans (q.mono (Nat.le_succ _)))
      have hmb := lobTo_bd HV.out hu0 hu1 k
      obtain ⟨hm0, hm1⟩ := hmb
      by_cases hlt : k < n
      · obtain ⟨x, y, hz1⟩ := course_get (zs := zs) k (bond_len HV.out).1
        obtain ⟨x2, y2, hz2⟩ := course_get (zs := zs) (k + 1) (bond_len HV.out).1
        have hok : Course.ok ⟨x, y⟩ = true := bond_course HV.out hz1
        have hok2 : Course.ok ⟨x2, y2⟩ = true := bond_course HV.out hz2
        have HS := hide (show lobTo zs u (k + 1) = lobStep (lapL (perps x y u) (perps x2 y2 u)) (lobTo zs u k) from by rw [← lapB_is u hz1 hz2]; rfl)
        rw [HL.out] at hz1 hz2
        have HZ := hide hz1
        have HZ2 := hide hz2
        obtain ⟨hl0, hl1⟩ := lap_perps_bd hok hok2 hu0 hu1
        clear hz1 hz2
        have hki : (k : Int) < (n : Int) := by omega
        have HK1 := hide (show (k : Int) + 1 = ((k + 1 : Nat) : Int) from by omega)
        have hw1 := Go.IntWalk.i64_in ((k : Int) + 1) ⟨by omega, by omega⟩
        generalize lobTo zs u k = m at *
        generalize hN : lapL (perps x y u) (perps x2 y2 u) = N at *
        have HN := hide hN
        clear hN
        by_cases h0 : 0 ≤ N
        case neg =>
          have HM := hide (lobStep_neg (m := m) h0)
          have hd0 : decide (0 ≤ N) = false := by simpa using h0
          go_wp2_with fail
          rw [HK1.out]
          refine (spec_l04Between w.heap.size A n c zs k (k + 1) u x y x2 y2 _ (by omega) (by omega) hu0 hu1 hn HL.out (HA.out.below HBW.out) HZ.out HZ2.out hok hok2 hzW c1).mono ?_
          rintro e w2 ⟨rfl, hb2⟩
          have HB' := hide (HB.out.trans (hb2.mono hz))
          clear hb2
          rw [HN.out]
          go_wp2
          go_roundw
          case rel => exact ⟨k + 1, by omega, by go_num, by rw [HS.out, HM.out], HB'⟩
          case measure => simp [intOf]; omega
        by_cases h1 : m < 0
        case pos =>
          have HM := hide (lobStep_take (m := m) h0 (.inl h1))
          go_wp2_with fail
          rw [HK1.out]
          refine (spec_l04Between w.heap.size A n c zs k (k + 1) u x y x2 y2 _ (by omega) (by omega) hu0 hu1 hn HL.out (HA.out.below HBW.out) HZ.out HZ2.out hok hok2 hzW c1).mono ?_
          rintro e w2 ⟨rfl, hb2⟩
          have HB' := hide (HB.out.trans (hb2.mono hz))
          clear hb2
          rw [HN.out]
          go_wp2
          go_roundw
          case rel => exact ⟨k + 1, by omega, by go_num, by rw [HS.out, HM.out], HB'⟩
          case measure => simp [intOf]; omega
        by_cases h2 : N < m
        case pos =>
          have HM := hide (lobStep_take (m := m) h0 (.inr h2))
          go_wp2_with fail
          rw [HK1.out]
          refine (spec_l04Between w.heap.size A n c zs k (k + 1) u x y x2 y2 _ (by omega) (by omega) hu0 hu1 hn HL.out (HA.out.below HBW.out) HZ.out HZ2.out hok hok2 hzW c1).mono ?_
          rintro e w2 ⟨rfl, hb2⟩
          have HB' := hide (HB.out.trans (hb2.mono hz))
          clear hb2
          rw [HN.out]
          go_wp2
          go_roundw
          case rel => exact ⟨k + 1, by omega, by go_num, by rw [HS.out, HM.out], HB'⟩
          case measure => simp [intOf]; omega
        have HM := hide (lobStep_keep (n := N) h1 h2)
        go_wp2_with fail
        rw [HK1.out]
        refine (spec_l04Between w.heap.size A n c zs k (k + 1) u x y x2 y2 _ (by omega) (by omega) hu0 hu1 hn HL.out (HA.out.below HBW.out) HZ.out HZ2.out hok hok2 hzW c1).mono ?_
        rintro e w2 ⟨rfl, hb2⟩
        have HB' := hide (HB.out.trans (hb2.mono hz))
        clear hb2
        rw [HN.out]
        go_wp2
        go_roundw
        case rel => exact ⟨k + 1, by omega, by go_num, by rw [HS.out, HM.out], HB'⟩
        case measure => simp [intOf]; omega
      · obtain rfl : k = n := by omega
        by_cases hneg : lobTo zs u k < 0
        · have e1 := hide (show lbN 0 (lobTo zs u k) = 0 from by unfold lbN; rw [if_neg (by omega)])
          have e2 := hide (show lbC 0 (lobTo zs u k) = 3 from by unfold lbC; rw [if_pos rfl, if_pos hneg])
          go_wp2
          go_ret2
          exact ⟨by rw [e1.out, e2.out]; rfl, HBW.out⟩
        · have e1 := hide (show lbN 0 (lobTo zs u k) = lobTo zs u k from by unfold lbN; rw [if_pos (by omega)])
          have e2 := hide (show lbC 0 (lobTo zs u k) = 0 from by unfold lbC; rw [if_pos rfl, if_neg hneg])
          go_wp2
          go_ret2
          exact ⟨by rw [e1.out, e2.out]; rfl, HBW.out⟩
  · rw [show lbN (bcode s zs [] u) (lobTo zs u zs.length) = 0 from by unfold lbN; rw [if_neg (by omega)], show lbC (bcode s zs [] u) (lobTo zs u zs.length) = 1 from by unfold lbC; rw [if_neg (by omega), hcode]]
    rw [bcode_none] at hcode
    go_enter Try.func28, Try.ntmps28
    go_wp2_with fail
    refine (spec_l04Code w.heap.size s A n c zs 0 u _ hs hn HL.out (HA.out.below HB0.out) HM.out (by simp) (by simp [go_sem]) (by simp [go_sem])).mono ?_
    rintro e w1 ⟨rfl, hb1⟩
    have BW1 := hide (show Below (w.heap.size + 1) (w.alloc (.cells #[.string s, .slice A n c] 29)) w1 from hb1.mono (by simp))
    have c1 := (BW1.out.cell (p := ⟨w.heap.size, 1, none⟩) (by simp)).trans (show _ = some (.slice A n c) from by simp [go_sem])
    clear hb1
    rw [hcode]
    clear hcode
    go_wp2
    go_ret2
    exact ⟨rfl, HB0.out.trans (BW1.out.mono (Nat.le_succ _))⟩
  · rw [show lbN (bcode s zs [] u) (lobTo zs u zs.length) = 0 from by unfold lbN; rw [if_neg (by omega)], show lbC (bcode s zs [] u) (lobTo zs u zs.length) = 2 from by unfold lbC; rw [if_neg (by omega), hcode]]
    rw [bcode_none] at hcode
    go_enter Try.func28, Try.ntmps28
    go_wp2_with fail
    refine (spec_l04Code w.heap.size s A n c zs 0 u _ hs hn HL.out (HA.out.below HB0.out) HM.out (by simp) (by simp [go_sem]) (by simp [go_sem])).mono ?_
    rintro e w1 ⟨rfl, hb1⟩
    have BW1 := hide (show Below (w.heap.size + 1) (w.alloc (.cells #[.string s, .slice A n c] 29)) w1 from hb1.mono (by simp))
    have c1 := (BW1.out.cell (p := ⟨w.heap.size, 1, none⟩) (by simp)).trans (show _ = some (.slice A n c) from by simp [go_sem])
    clear hb1
    rw [hcode]
    clear hcode
    go_wp2
    go_ret2
    exact ⟨rfl, HB0.out.trans (BW1.out.mono (Nat.le_succ _))⟩
end Go.Proofs.Ytlokmkiicmpccaa
