/-
  What is proved: the headers in a course of a bond, of the program and of the reference. Condition: lengths that fit.
-/
import Derived.Test.YtfjnhocmkafnbaaBCode2
namespace Go.Proofs.Ytfjnhocmkafnbaa
open Go.RowKit Go.PlainAid
set_option linter.unusedVariables false

def headQ (x y : ByteArray) : Nat → Int
  | 0 => 0
  | i + 1 => headQ x y i + if letterAt x y i = 72 then 1 else 0
theorem headQ_yes {x y : ByteArray} {i : Nat} (h : letterAt x y i = 72) : headQ x y (i + 1) = headQ x y i + 1 := by rw [headQ, if_pos h]
theorem headQ_no {x y : ByteArray} {i : Nat} (h : ¬ letterAt x y i = 72) : headQ x y (i + 1) = headQ x y i := by rw [headQ, if_neg h, Int.add_zero]
theorem headQ_bd (x y : ByteArray) (i : Nat) : 0 ≤ headQ x y i ∧ headQ x y i ≤ i := by
  induction i with
  | zero => exact ⟨Int.le_refl _, Int.le_refl _⟩
  | succ i ih =>
    rw [headQ]
    split <;> omega
noncomputable def heads (x y : ByteArray) (u : Int) : Int := headQ x y (cntQ x y (u + 1))
theorem heads_is {x y : ByteArray} {u : Int} {N : Nat} (h : Course.ok ⟨x, y⟩ = true) (h0 : sumQ x y N ≤ u) (h1 : u < sumQ x y (N + 1)) : heads x y u = headQ x y N := by
  unfold heads
  rw [cntQ_is (N := N) h (by omega) (by omega)]
noncomputable def headsN (s : ByteArray) (zs : List Course) (k u : Int) : Int := if bcode s zs [k] u = 0 then heads (courseAt zs k).lead (courseAt zs k).cycle u else 0
set_option maxRecDepth 100000 in
set_option maxHeartbeats 4000000 in
theorem impl_headersIn (s : ByteArray) (A : Option Addr) (n c : Nat) (zs : List Course) (k u : Int) (w : World) (hs : s.size ≤ maxLen) (hn : n ≤ 16777216) (hl : zs.length = n) (h : Row Course.enc 2 w A zs) (hm : Texts zs) :
    Calls Try.prog 36 #[.agg #[.string s, .slice A n c], .int .i64 k, .int .i64 u] w fun e w' => e = .returned (.tuple #[.int .i64 (headsN s zs k u), .int .i64 (bcode s zs [k] u)]) ∧ Below w.heap.size w w' := by
  have HA := hide h
  have HL := hide hl
  have HM := hide hm
  clear h hl hm
  have HB0 := hide ((Below.refl w.heap.size w).alloc (Nat.le_refl _) (.cells #[.string s, .slice A n c] 62))
  have HBa := hide (HB0.out.alloc (by simp) (.cells #[.int .i64 k] 2))
  rcases bcode_cases s zs [k] u with ⟨hcode, hv, ha, hu0, hu1⟩ | hcode | hcode
  · obtain ⟨hk0, hk1⟩ := all_one.1 ha
    obtain ⟨k, rfl⟩ : ∃ j : Nat, k = (j : Int) := ⟨k.toNat, by omega⟩
    obtain ⟨x, y, hz⟩ := course_get (zs := zs) k (bond_len hv).1
    have hok : Course.ok ⟨x, y⟩ = true := bond_course hv hz
    rw [show headsN s zs (k : Int) u = heads x y u from by unfold headsN; rw [if_pos hcode, courseAt_is hz]]
    rw [HL.out] at hz
    have HZ := hide hz
    have HK := hide hok
    obtain ⟨hx, -, ⟨hy0, hy⟩, -⟩ := course_split hok
    rw [hcode]
    clear ha hz hv hok
    go_enter Try.func36, Try.ntmps36
    go_wp2_with fail
    refine (impl_bondCode s A n c zs u _ _ _ [k] _ hs hn HL.out (HA.out.below HBa.out) HM.out (by simp) rfl (row_one_at _ _ _ _ (by simp))).mono ?_
    rintro e w1 ⟨rfl, hb1⟩
    have HB1 := hide (HBa.out.trans (hb1.mono (by simp <;> omega)))
    have c0 := (hb1.cell (p := ⟨w.heap.size, 0, none⟩) (by simp <;> omega)).trans (show _ = some (.string s) from by simp [go_sem])
    have c1 := (hb1.cell (p := ⟨w.heap.size, 1, none⟩) (by simp <;> omega)).trans (show _ = some (.slice A n c) from by simp [go_sem])
    have hz1 : w.heap.size < w1.heap.size := by have := hb1.size; simp at this; omega
    clear hb1
    rw [hcode]
    clear hcode
    go_wp2_with fail
    refine (impl_course s A n c zs k x y _ (by omega) hn HL.out (HA.out.below HB1.out) HZ.out).mono ?_
    rintro e w2 ⟨rfl, hb2⟩
    have HB2 := hide (HB1.out.trans (hb2.mono HB1.out.size))
    have HS2 := hide (HB2.out.size)
    clear hb2 c0 c1 hz1
    go_wp2
    go_loopw [10, 11, 12] (fun v a i wr => ∃ j : Nat, (j : Int) ≤ u ∧ i = .int .i64 j ∧ a = .int .i64 (sumQ x y j) ∧ v = .int .i64 (headQ x y j) ∧ Hid (sumQ x y j ≤ u) ∧ Hid (Below (w2.heap.size + 1) (w2.alloc (.cells #[.string x, .string y] 129)) wr)) (fun _ _ i _ => (u + 1 - intOf i).toNat)
    case atStart => exact ⟨0, by omega, rfl, rfl, rfl, hide (show (0 : Int) ≤ u by omega), hide (Below.refl _ _)⟩
    case round =>
      obtain ⟨j, hj, rfl, rfl, rfl, HU, HB⟩ := hrel
      have hz := HB.out.size
      rw [show (w2.alloc (.cells #[.string x, .string y] 129)).heap.size = w2.heap.size + 1 from by simp] at hz
      have c0 := (HB.out.cell (p := ⟨w2.heap.size, 0, none⟩) (by simp)).trans (show _ = some (.string x) from by simp [go_sem])
      have c1 := (HB.out.cell (p := ⟨w2.heap.size, 1, none⟩) (by simp)).trans (show _ = some (.string y) from by simp [go_sem])
      have b1 := (sumQ_bd HK.out j).1
      have b2 := (sumQ_bd HK.out j).2
      have b3 := (letter_q HK.out j).1
      have b4 := (letter_q HK.out j).2
      have l1 := (letter_u8 x y j).1
      have l2 := (letter_u8 x y j).2
      have g1 := (headQ_bd x y j).1
      have g2 := (headQ_bd x y j).2
      have hs' : sumQ x y j + qI (letterAt x y j) = sumQ x y (j + 1) := rfl
      have u1 := HU.out
      by_cases hge : u < sumQ x y (j + 1)
      · have HP := hide (heads_is HK.out HU.out hge)
        go_wp2_with fail
        refine (impl_pieceAt x y j _ hx hy0 hy (by omega)).mono ?_
        rintro e w3 ⟨rfl, hb3⟩
        have HB3 := hide (HB.out.trans (hb3.mono hz))
        clear hb3 c0 c1
        go_wp2_with fail
        refine (impl_quarters _ _ l1 l2).mono ?_
        rintro e w4 ⟨rfl, rfl⟩
        go_wp2
        go_ret2
        exact ⟨by rw [HP.out]; rfl, HB2.out.trans (((Below.refl _ _).alloc HS2.out _).trans (HB3.out.mono (Nat.le_succ_of_le HS2.out)))⟩
      · have u2 : sumQ x y (j + 1) ≤ u := by omega
        by_cases h72 : letterAt x y j = 72
        · have HH := hide (headQ_yes h72)
          have he : (letterAt x y j == 72) = true := by simp [h72]
          clear h72
          go_wp2_with fail
          refine (impl_pieceAt x y j _ hx hy0 hy (by omega)).mono ?_
          rintro e w3 ⟨rfl, hb3⟩
          have HB3 := hide (HB.out.trans (hb3.mono hz))
          clear hb3 c0 c1
          go_wp2_with fail
          refine (impl_quarters _ _ l1 l2).mono ?_
          rintro e w4 ⟨rfl, rfl⟩
          go_wp2
          go_roundw
          case rel => exact ⟨j + 1, by have := (sumQ_bd HK.out (j + 1)).1; omega, by go_num, rfl, by rw [HH.out], hide u2, HB3⟩
          case measure => simp [intOf]; omega
        · have HH := hide (headQ_no h72)
          have he : (letterAt x y j == 72) = false := by simp [h72]
          clear h72
          go_wp2_with fail
          refine (impl_pieceAt x y j _ hx hy0 hy (by omega)).mono ?_
          rintro e w3 ⟨rfl, hb3⟩
          have HB3 := hide (HB.out.trans (hb3.mono hz))
          clear hb3 c0 c1
          go_wp2_with fail
          refine (impl_quarters _ _ l1 l2).mono ?_
          rintro e w4 ⟨rfl, rfl⟩
          go_wp2
          go_roundw
          case rel => exact ⟨j + 1, by have := (sumQ_bd HK.out (j + 1)).1; omega, by go_num, rfl, by rw [HH.out], hide u2, HB3⟩
          case measure => simp [intOf]; omega
  · rw [show headsN s zs k u = 0 from by unfold headsN; rw [if_neg (by omega)]]
    rw [hcode]
    go_enter Try.func36, Try.ntmps36
    go_wp2_with fail
    refine (impl_bondCode s A n c zs u _ _ _ [k] _ hs hn HL.out (HA.out.below HBa.out) HM.out (by simp) rfl (row_one_at _ _ _ _ (by simp))).mono ?_
    rintro e w1 ⟨rfl, hb1⟩
    have HB1 := hide (HBa.out.trans (hb1.mono (by simp <;> omega)))
    have c0 := (hb1.cell (p := ⟨w.heap.size, 0, none⟩) (by simp <;> omega)).trans (show _ = some (.string s) from by simp [go_sem])
    have c1 := (hb1.cell (p := ⟨w.heap.size, 1, none⟩) (by simp <;> omega)).trans (show _ = some (.slice A n c) from by simp [go_sem])
    have hz1 : w.heap.size < w1.heap.size := by have := hb1.size; simp at this; omega
    clear hb1
    rw [hcode]
    clear hcode
    go_wp2
    go_ret2
    exact ⟨rfl, HB1.out⟩
  · rw [show headsN s zs k u = 0 from by unfold headsN; rw [if_neg (by omega)]]
    rw [hcode]
    go_enter Try.func36, Try.ntmps36
    go_wp2_with fail
    refine (impl_bondCode s A n c zs u _ _ _ [k] _ hs hn HL.out (HA.out.below HBa.out) HM.out (by simp) rfl (row_one_at _ _ _ _ (by simp))).mono ?_
    rintro e w1 ⟨rfl, hb1⟩
    have HB1 := hide (HBa.out.trans (hb1.mono (by simp <;> omega)))
    have c0 := (hb1.cell (p := ⟨w.heap.size, 0, none⟩) (by simp <;> omega)).trans (show _ = some (.string s) from by simp [go_sem])
    have c1 := (hb1.cell (p := ⟨w.heap.size, 1, none⟩) (by simp <;> omega)).trans (show _ = some (.slice A n c) from by simp [go_sem])
    have hz1 : w.heap.size < w1.heap.size := by have := hb1.size; simp at this; omega
    clear hb1
    rw [hcode]
    clear hcode
    go_wp2
    go_ret2
    exact ⟨rfl, HB1.out⟩
end Go.Proofs.Ytfjnhocmkafnbaa
