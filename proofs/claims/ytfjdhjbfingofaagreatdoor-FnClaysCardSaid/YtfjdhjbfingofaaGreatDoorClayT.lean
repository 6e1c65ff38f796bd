/-
  What is proved: a clay as text, of the program and of the reference. Conditions: a name that fits in memory, numbers of 64 bits; the library's own table holds what its initialiser lays.
-/
import Derived.Test.YtfjdhjbfingofaaGreatDoorNum
import Derived.Test.YtfjdhjbfingofaaGreatDoorTexts
import Derived.Test.YtfjdhjbfingofaaGreatDoorClayP
import Derived.Deep.RegionHeld3
namespace Go.Proofs.YtfjdhjbfingofaaGreatDoor
open Go.RowKit Go.PlainAid
set_option linter.unusedVariables false

def clayT (c : Clay) : ByteArray := if c.ok = true then ba (cText c) else ⟨#[]⟩
theorem clayT_yes {c : Clay} (e : c.ok = true) : clayT c = ba (cText c) := if_pos e
theorem clayT_no {c : Clay} (e : c.ok = false) : clayT c = ⟨#[]⟩ := if_neg (by rw [e]; simp)
theorem clay_bd {c : Clay} (e : c.ok = true) : I64 c.s ∧ I64 c.l ∧ I64 c.d ∧ I64 c.p ∧ c.n.size ≤ 12 := by
  obtain ⟨h0, h1, h2, h3, h4⟩ := clay_parts e
  have := (of_decide_eq_true h0).2.1
  unfold Small at h1 h2 h3 h4
  unfold I64
  omega
theorem cText_decs (x0 : ByteArray) (x1 x2 x3 x4 : Int) : x0 ++ ⟨#[32, 115, 104, 114, 105, 110, 107, 32]⟩ ++ decB x1 ++ ⟨#[32, 108, 105, 109, 101, 32]⟩ ++ decB x2 ++ ⟨#[32, 115, 97, 110, 100, 32]⟩ ++ decB x3 ++ ⟨#[32, 112, 114, 105, 99, 101, 32]⟩ ++ decB x4 = ba (cText ⟨x0, x1, x2, x3, x4⟩) := by
  have e1 : (⟨#[32, 115, 104, 114, 105, 110, 107, 32]⟩ : ByteArray) = ba (32 :: (shrW ++ [32])) := rfl
  have e2 : (⟨#[32, 108, 105, 109, 101, 32]⟩ : ByteArray) = ba (32 :: (limW ++ [32])) := rfl
  have e3 : (⟨#[32, 115, 97, 110, 100, 32]⟩ : ByteArray) = ba (32 :: (sanW ++ [32])) := rfl
  have e4 : (⟨#[32, 112, 114, 105, 99, 101, 32]⟩ : ByteArray) = ba (32 :: (priW ++ [32])) := rfl
  have e0 : x0 = ba x0.data.toList := (ba_of x0).symm
  rw [e1, e2, e3, e4]
  conv => lhs; rw [e0]
  unfold decB cText
  simp only [ba_app]
  simp
set_option maxRecDepth 100000 in
set_option maxHeartbeats 4000000 in
theorem impl_clayText (x0 : ByteArray) (x1 x2 x3 x4 : Int) (w : World) (hs : x0.size ≤ maxLen) (hp : Pow10 w) :
    Calls Tryz.prog 18 #[.agg #[.string x0, .int .i64 x1, .int .i64 x2, .int .i64 x3, .int .i64 x4]] w fun e w' => e = .returned (.string (clayT ⟨x0, x1, x2, x3, x4⟩)) ∧ Below w.heap.size w w' := by
  have HP := hide hp
  clear hp
  have HB0 := hide ((Below.refl w.heap.size w).alloc (Nat.le_refl _) (.cells #[.string x0, .int .i64 x1, .int .i64 x2, .int .i64 x3, .int .i64 x4] 35))
  cases hb : Clay.ok ⟨x0, x1, x2, x3, x4⟩ with
  | false =>
    rw [clayT_no hb]
    have HV := hide hb
    clear hb
    go_enter Tryz.func18, Tryz.ntmps18
    go_wp2_with fail
    refine (impl_isClay _ _ _ _ _ _ hs).mono ?_
    rintro e w1 ⟨rfl, hb1⟩
    rw [HV.out]
    have HB1 := hide (HB0.out.trans (hb1.mono (by simp)))
    clear hb1
    go_wp2
    go_ret
    exact ⟨rfl, HB1.out⟩
  | true =>
    obtain ⟨i1, i2, i3, i4, hs0⟩ := clay_bd hb
    simp only at i1 i2 i3 i4 hs0
    rw [clayT_yes hb, ← cText_decs]
    have HV := hide hb
    clear hb
    have hs1 := decB_size x1 i1
    have hs2 := decB_size x2 i2
    have hs3 := decB_size x3 i3
    have hs4 := decB_size x4 i4
    obtain ⟨S1, e1⟩ : ∃ s, decB x1 = s := ⟨_, rfl⟩
    rw [e1] at hs1 ⊢
    have E1 := hide e1
    clear e1
    obtain ⟨S2, e2⟩ : ∃ s, decB x2 = s := ⟨_, rfl⟩
    rw [e2] at hs2 ⊢
    have E2 := hide e2
    clear e2
    obtain ⟨S3, e3⟩ : ∃ s, decB x3 = s := ⟨_, rfl⟩
    rw [e3] at hs3 ⊢
    have E3 := hide e3
    clear e3
    obtain ⟨S4, e4⟩ : ∃ s, decB x4 = s := ⟨_, rfl⟩
    rw [e4] at hs4 ⊢
    have E4 := hide e4
    clear e4
    have c0 : ¬ 9223372036854775807 < x0.size + 8 := by omega
    have c1 : ¬ 9223372036854775807 < x0.size + 8 + S1.size := by omega
    have c2 : ¬ 9223372036854775807 < x0.size + 8 + S1.size + 6 := by omega
    have c3 : ¬ 9223372036854775807 < x0.size + 8 + S1.size + 6 + S2.size := by omega
    have c4 : ¬ 9223372036854775807 < x0.size + 8 + S1.size + 6 + S2.size + 6 := by omega
    have c5 : ¬ 9223372036854775807 < x0.size + 8 + S1.size + 6 + S2.size + 6 + S3.size := by omega
    have c6 : ¬ 9223372036854775807 < x0.size + 8 + S1.size + 6 + S2.size + 6 + S3.size + 7 := by omega
    have c7 : ¬ 9223372036854775807 < x0.size + 8 + S1.size + 6 + S2.size + 6 + S3.size + 7 + S4.size := by omega
    go_enter Tryz.func18, Tryz.ntmps18
    go_wp2_with fail
    refine (impl_isClay _ _ _ _ _ _ hs).mono ?_
    rintro e w1 ⟨rfl, hb⟩
    rw [HV.out]
    have HB1 := hide (HB0.out.trans (hb.mono (by simp)))
    have r0 := (hb.cell (p := ⟨w.heap.size, 0, none⟩) (by simp)).trans (show _ = some (.string x0) from by simp [go_sem])
    have r1 := (hb.cell (p := ⟨w.heap.size, 1, none⟩) (by simp)).trans (show _ = some (.int .i64 x1) from by simp [go_sem])
    have r2 := (hb.cell (p := ⟨w.heap.size, 2, none⟩) (by simp)).trans (show _ = some (.int .i64 x2) from by simp [go_sem])
    have r3 := (hb.cell (p := ⟨w.heap.size, 3, none⟩) (by simp)).trans (show _ = some (.int .i64 x3) from by simp [go_sem])
    have r4 := (hb.cell (p := ⟨w.heap.size, 4, none⟩) (by simp)).trans (show _ = some (.int .i64 x4) from by simp [go_sem])
    have hz : w.heap.size < w1.heap.size := by have := hb.size; simp at this; omega
    clear hb
    go_wp2
    go_region_held3 (fun w' => w'.cell? ⟨w.heap.size, 0, none⟩ = some (.string x0) ∧ w'.cell? ⟨w.heap.size, 1, none⟩ = some (.int .i64 x1) ∧ w'.cell? ⟨w.heap.size, 2, none⟩ = some (.int .i64 x2) ∧ w'.cell? ⟨w.heap.size, 3, none⟩ = some (.int .i64 x3) ∧ w'.cell? ⟨w.heap.size, 4, none⟩ = some (.int .i64 x4))
      (first
        | go_keep
        | exact ⟨r0, r1, r2, r3, r4⟩)
      (first
        | (go_at_call_of 50 (Value.int .i64 x1)
           refine (impl_dec x1 _ i1 (HP.out.below HB1.out.drew)).mono ?_
           rintro e v1 ⟨rfl, hb⟩
           rw [E1.out]
           replace r0 := (hb.cell (p := ⟨w.heap.size, 0, none⟩) (by first | exact hz | (simp; omega))).trans r0
           replace r1 := (hb.cell (p := ⟨w.heap.size, 1, none⟩) (by first | exact hz | (simp; omega))).trans r1
           replace r2 := (hb.cell (p := ⟨w.heap.size, 2, none⟩) (by first | exact hz | (simp; omega))).trans r2
           replace r3 := (hb.cell (p := ⟨w.heap.size, 3, none⟩) (by first | exact hz | (simp; omega))).trans r3
           replace r4 := (hb.cell (p := ⟨w.heap.size, 4, none⟩) (by first | exact hz | (simp; omega))).trans r4
           have HBv1 := hide (HB1.out.drew.trans (hb.mono HB1.out.size))
           have hzv1 : w.heap.size < v1.heap.size := by have := hb.size; first | omega | (simp at this; omega)
           clear hb)
        | (go_at_call_of 50 (Value.int .i64 x2)
           refine (impl_dec x2 _ i2 (HP.out.below HBv1.out)).mono ?_
           rintro e v2 ⟨rfl, hb⟩
           rw [E2.out]
           replace r0 := (hb.cell (p := ⟨w.heap.size, 0, none⟩) (by first | exact hzv1 | (simp; omega))).trans r0
           replace r1 := (hb.cell (p := ⟨w.heap.size, 1, none⟩) (by first | exact hzv1 | (simp; omega))).trans r1
           replace r2 := (hb.cell (p := ⟨w.heap.size, 2, none⟩) (by first | exact hzv1 | (simp; omega))).trans r2
           replace r3 := (hb.cell (p := ⟨w.heap.size, 3, none⟩) (by first | exact hzv1 | (simp; omega))).trans r3
           replace r4 := (hb.cell (p := ⟨w.heap.size, 4, none⟩) (by first | exact hzv1 | (simp; omega))).trans r4
           have HBv2 := hide (HBv1.out.trans (hb.mono HBv1.out.size))
           have hzv2 : w.heap.size < v2.heap.size := by have := hb.size; first | omega | (simp at this; omega)
           clear hb)
        | (go_at_call_of 50 (Value.int .i64 x3)
           refine (impl_dec x3 _ i3 (HP.out.below HBv2.out)).mono ?_
           rintro e v3 ⟨rfl, hb⟩
           rw [E3.out]
           replace r0 := (hb.cell (p := ⟨w.heap.size, 0, none⟩) (by first | exact hzv2 | (simp; omega))).trans r0
           replace r1 := (hb.cell (p := ⟨w.heap.size, 1, none⟩) (by first | exact hzv2 | (simp; omega))).trans r1
           replace r2 := (hb.cell (p := ⟨w.heap.size, 2, none⟩) (by first | exact hzv2 | (simp; omega))).trans r2
           replace r3 := (hb.cell (p := ⟨w.heap.size, 3, none⟩) (by first | exact hzv2 | (simp; omega))).trans r3
           replace r4 := (hb.cell (p := ⟨w.heap.size, 4, none⟩) (by first | exact hzv2 | (simp; omega))).trans r4
           have HBv3 := hide (HBv2.out.trans (hb.mono HBv2.out.size))
           have hzv3 : w.heap.size < v3.heap.size := by have := hb.size; first | omega | (simp at this; omega)
           clear hb)
        | (go_at_call_of 50 (Value.int .i64 x4)
           refine (impl_dec x4 _ i4 (HP.out.below HBv3.out)).mono ?_
           rintro e v4 ⟨rfl, hb⟩
           rw [E4.out]
           replace r0 := (hb.cell (p := ⟨w.heap.size, 0, none⟩) (by first | exact hzv3 | (simp; omega))).trans r0
           replace r1 := (hb.cell (p := ⟨w.heap.size, 1, none⟩) (by first | exact hzv3 | (simp; omega))).trans r1
           replace r2 := (hb.cell (p := ⟨w.heap.size, 2, none⟩) (by first | exact hzv3 | (simp; omega))).trans r2
           replace r3 := (hb.cell (p := ⟨w.heap.size, 3, none⟩) (by first | exact hzv3 | (simp; omega))).trans r3
           replace r4 := (hb.cell (p := ⟨w.heap.size, 4, none⟩) (by first | exact hzv3 | (simp; omega))).trans r4
           have HBv4 := hide (HBv3.out.trans (hb.mono HBv3.out.size))
           have hzv4 : w.heap.size < v4.heap.size := by have := hb.size; first | omega | (simp at this; omega)
           clear hb))
    go_wp2
    go_ret
    exact ⟨rfl, HBv4.out⟩
set_option maxRecDepth 100000 in
set_option maxHeartbeats 4000000 in
theorem spec_l03Text (x0 : ByteArray) (x1 x2 x3 x4 : Int) (g off : Nat) (w : World) (hs0 : x0.size ≤ 1048576) (i1 : I64 x1) (i2 : I64 x2) (i3 : I64 x3) (i4 : I64 x4) (r0 : w.cell? ⟨g, off, none⟩ = some (.string x0)) (r1 : w.cell? ⟨g, off + 1, none⟩ = some (.int .i64 x1)) (r2 : w.cell? ⟨g, off + 2, none⟩ = some (.int .i64 x2)) (r3 : w.cell? ⟨g, off + 3, none⟩ = some (.int .i64 x3)) (r4 : w.cell? ⟨g, off + 4, none⟩ = some (.int .i64 x4)) :
    Calls Tryz.prog 53 #[.pointer (some ⟨g, off, none⟩)] w fun e w' => e = .returned (.string (ba (cText ⟨x0, x1, x2, x3, x4⟩))) ∧ Below w.heap.size w w' := by
  have hz : g < w.heap.size := cell_lt' r0
  rw [← cText_decs]
  have hs1 := decB_size x1 i1
  have hs2 := decB_size x2 i2
  have hs3 := decB_size x3 i3
  have hs4 := decB_size x4 i4
  obtain ⟨S1, e1⟩ : ∃ s, decB x1 = s := ⟨_, rfl⟩
  rw [e1] at hs1 ⊢
  have E1 := hide e1
  clear e1
  obtain ⟨S2, e2⟩ : ∃ s, decB x2 = s := ⟨_, rfl⟩
  rw [e2] at hs2 ⊢
  have E2 := hide e2
  clear e2
  obtain ⟨S3, e3⟩ : ∃ s, decB x3 = s := ⟨_, rfl⟩
  rw [e3] at hs3 ⊢
  have E3 := hide e3
  clear e3
  obtain ⟨S4, e4⟩ : ∃ s, decB x4 = s := ⟨_, rfl⟩
  rw [e4] at hs4 ⊢
  have E4 := hide e4
  clear e4
  have c0 : ¬ 9223372036854775807 < x0.size + 8 := by omega
  have c1 : ¬ 9223372036854775807 < x0.size + 8 + S1.size := by omega
  have c2 : ¬ 9223372036854775807 < x0.size + 8 + S1.size + 6 := by omega
  have c3 : ¬ 9223372036854775807 < x0.size + 8 + S1.size + 6 + S2.size := by omega
  have c4 : ¬ 9223372036854775807 < x0.size + 8 + S1.size + 6 + S2.size + 6 := by omega
  have c5 : ¬ 9223372036854775807 < x0.size + 8 + S1.size + 6 + S2.size + 6 + S3.size := by omega
  have c6 : ¬ 9223372036854775807 < x0.size + 8 + S1.size + 6 + S2.size + 6 + S3.size + 7 := by omega
  have c7 : ¬ 9223372036854775807 < x0.size + 8 + S1.size + 6 + S2.size + 6 + S3.size + 7 + S4.size := by omega
  go_enter Tryz.func53, Tryz.ntmps53
  have HB0 := hide (Below.refl w.heap.size w)
  go_wp2
  go_region_held3 (fun w' => w'.cell? ⟨g, off, none⟩ = some (.string x0) ∧ w'.cell? ⟨g, off + 1, none⟩ = some (.int .i64 x1) ∧ w'.cell? ⟨g, off + 2, none⟩ = some (.int .i64 x2) ∧ w'.cell? ⟨g, off + 3, none⟩ = some (.int .i64 x3) ∧ w'.cell? ⟨g, off + 4, none⟩ = some (.int .i64 x4))
    (first
      | go_keep
      | exact ⟨r0, r1, r2, r3, r4⟩)
    (first
      | (go_at_call_of 79 (Value.int .i64 x1)
         refine (spec_dec x1 _ i1).mono ?_
         rintro e v1 ⟨rfl, hb⟩
         rw [E1.out]
         replace r0 := (hb.cell (p := ⟨g, off, none⟩) (by first | exact hz | (simp; omega))).trans r0
         replace r1 := (hb.cell (p := ⟨g, off + 1, none⟩) (by first | exact hz | (simp; omega))).trans r1
         replace r2 := (hb.cell (p := ⟨g, off + 2, none⟩) (by first | exact hz | (simp; omega))).trans r2
         replace r3 := (hb.cell (p := ⟨g, off + 3, none⟩) (by first | exact hz | (simp; omega))).trans r3
         replace r4 := (hb.cell (p := ⟨g, off + 4, none⟩) (by first | exact hz | (simp; omega))).trans r4
         have HBv1 := hide (HB0.out.drew.trans (hb.mono HB0.out.size))
         have hzv1 : g < v1.heap.size := by have := hb.size; first | omega | (simp at this; omega)
         clear hb)
      | (go_at_call_of 79 (Value.int .i64 x2)
         refine (spec_dec x2 _ i2).mono ?_
         rintro e v2 ⟨rfl, hb⟩
         rw [E2.out]
         replace r0 := (hb.cell (p := ⟨g, off, none⟩) (by first | exact hzv1 | (simp; omega))).trans r0
         replace r1 := (hb.cell (p := ⟨g, off + 1, none⟩) (by first | exact hzv1 | (simp; omega))).trans r1
         replace r2 := (hb.cell (p := ⟨g, off + 2, none⟩) (by first | exact hzv1 | (simp; omega))).trans r2
         replace r3 := (hb.cell (p := ⟨g, off + 3, none⟩) (by first | exact hzv1 | (simp; omega))).trans r3
         replace r4 := (hb.cell (p := ⟨g, off + 4, none⟩) (by first | exact hzv1 | (simp; omega))).trans r4
         have HBv2 := hide (HBv1.out.trans (hb.mono HBv1.out.size))
         have hzv2 : g < v2.heap.size := by have := hb.size; first | omega | (simp at this; omega)
         clear hb)
      | (go_at_call_of 79 (Value.int .i64 x3)
         refine (spec_dec x3 _ i3).mono ?_
         rintro e v3 ⟨rfl, hb⟩
         rw [E3.out]
         replace r0 := (hb.cell (p := ⟨g, off, none⟩) (by first | exact hzv2 | (simp; omega))).trans r0
         replace r1 := (hb.cell (p := ⟨g, off + 1, none⟩) (by first | exact hzv2 | (simp; omega))).trans r1
         replace r2 := (hb.cell (p := ⟨g, off + 2, none⟩) (by first | exact hzv2 | (simp; omega))).trans r2
         replace r3 := (hb.cell (p := ⟨g, off + 3, none⟩) (by first | exact hzv2 | (simp; omega))).trans r3
         replace r4 := (hb.cell (p := ⟨g, off + 4, none⟩) (by first | exact hzv2 | (simp; omega))).trans r4
         have HBv3 := hide (HBv2.out.trans (hb.mono HBv2.out.size))
         have hzv3 : g < v3.heap.size := by have := hb.size; first | omega | (simp at this; omega)
         clear hb)
      | (go_at_call_of 79 (Value.int .i64 x4)
         refine (spec_dec x4 _ i4).mono ?_
         rintro e v4 ⟨rfl, hb⟩
         rw [E4.out]
         replace r0 := (hb.cell (p := ⟨g, off, none⟩) (by first | exact hzv3 | (simp; omega))).trans r0
         replace r1 := (hb.cell (p := ⟨g, off + 1, none⟩) (by first | exact hzv3 | (simp; omega))).trans r1
         replace r2 := (hb.cell (p := ⟨g, off + 2, none⟩) (by first | exact hzv3 | (simp; omega))).trans r2
         replace r3 := (hb.cell (p := ⟨g, off + 3, none⟩) (by first | exact hzv3 | (simp; omega))).trans r3
         replace r4 := (hb.cell (p := ⟨g, off + 4, none⟩) (by first | exact hzv3 | (simp; omega))).trans r4
         have HBv4 := hide (HBv3.out.trans (hb.mono HBv3.out.size))
         have hzv4 : g < v4.heap.size := by have := hb.size; first | omega | (simp at this; omega)
         clear hb))
  go_wp2
  go_ret
  exact ⟨rfl, HBv4.out⟩
set_option maxHeartbeats 1000000 in
theorem spec_clayText (x0 : ByteArray) (x1 x2 x3 x4 : Int) (w : World) (hs : x0.size ≤ maxLen) :
    Calls Tryz.prog 25 #[.agg #[.string x0, .int .i64 x1, .int .i64 x2, .int .i64 x3, .int .i64 x4]] w fun e w' => e = .returned (.string (clayT ⟨x0, x1, x2, x3, x4⟩)) ∧ Below w.heap.size w w' := by
  obtain ⟨u, hu⟩ : ∃ u, w.alloc (.cells #[.string x0, .int .i64 x1, .int .i64 x2, .int .i64 x3, .int .i64 x4] 35) = u := ⟨_, rfl⟩
  have HB0 := hide (show Below w.heap.size w u from by rw [← hu]; exact (Below.refl _ _).alloc (Nat.le_refl _) _)
  have r0 : u.cell? ⟨w.heap.size, 0, none⟩ = some (.string x0) := by rw [← hu]; simp [go_sem]
  have r1 : u.cell? ⟨w.heap.size, 1, none⟩ = some (.int .i64 x1) := by rw [← hu]; simp [go_sem]
  have r2 : u.cell? ⟨w.heap.size, 2, none⟩ = some (.int .i64 x2) := by rw [← hu]; simp [go_sem]
  have r3 : u.cell? ⟨w.heap.size, 3, none⟩ = some (.int .i64 x3) := by rw [← hu]; simp [go_sem]
  have r4 : u.cell? ⟨w.heap.size, 4, none⟩ = some (.int .i64 x4) := by rw [← hu]; simp [go_sem]
  have HU := hide hu
  clear hu
  cases hb : Clay.ok ⟨x0, x1, x2, x3, x4⟩ with
  | false =>
    rw [clayT_no hb]
    have HV := hide hb
    clear hb
    go_enter Tryz.func25, Tryz.ntmps25
    go_wp2_with fail
    rw [HU.out]
    refine (spec_isClay x0 x1 x2 x3 x4 w.heap.size 0 _ hs r0 r1 r2 r3 r4).mono ?_
    rintro e w1 ⟨rfl, rfl⟩
    rw [HV.out]
    go_wp2
    go_ret
    exact ⟨rfl, HB0.out⟩
  | true =>
    obtain ⟨i1, i2, i3, i4, hs0⟩ := clay_bd hb
    simp only at i1 i2 i3 i4 hs0
    rw [clayT_yes hb]
    have HV := hide hb
    clear hb
    go_enter Tryz.func25, Tryz.ntmps25
    go_wp2_with fail
    rw [HU.out]
    refine (spec_isClay x0 x1 x2 x3 x4 w.heap.size 0 _ hs r0 r1 r2 r3 r4).mono ?_
    rintro e w1 ⟨rfl, rfl⟩
    rw [HV.out]
    go_wp2_with fail
    refine (spec_l03Text x0 x1 x2 x3 x4 w.heap.size 0 _ (by omega) i1 i2 i3 i4 r0 r1 r2 r3 r4).mono ?_
    rintro e w2 ⟨rfl, hb⟩
    have HB2 := hide (HB0.out.trans (hb.mono HB0.out.size))
    clear hb
    go_wp2
    go_ret
    exact ⟨rfl, HB2.out⟩
end Go.Proofs.YtfjdhjbfingofaaGreatDoor
