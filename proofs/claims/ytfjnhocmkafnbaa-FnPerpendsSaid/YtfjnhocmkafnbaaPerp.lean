/-
  What is proved: the letters and the perpends of a course, of the program and of the reference. Condition: a valid course, a length in range.
-/
import Derived.Test.YtfjnhocmkafnbaaPerpP
import Derived.Test.YtfjnhocmkafnbaaIntS
import Derived.Laws.AppendOwn
import Derived.OwnWalk
import Derived.IntWalk
namespace Go.Proofs.Ytfjnhocmkafnbaa
open Go.RowKit Go.PlainAid
set_option linter.unusedVariables false

theorem wrap_nat (m : Nat) (h : m < 1000) : IntKind.i64.wrap (m : Int) = (m : Int) := Go.IntWalk.i64_in _ ⟨by omega, by omega⟩
theorem info_Int : (Try.prog.info? 2).map (fun i => (i.zero, i.size, i.bytes)) = some (some (.int .i64 0), 1, 8) := by kernel_rfl
set_option maxRecDepth 100000 in
set_option maxHeartbeats 400000 in
theorem impl_pieceAt (x y : ByteArray) (i : Nat) (w : World) (hx : x.size ≤ 6) (hy0 : 1 ≤ y.size) (hy : y.size ≤ 8) (hi : i ≤ 1000) :
    Calls Try.prog 102 #[.agg #[.string x, .string y], .int .i64 i] w fun e w' => e = .returned (.int .u8 (letterAt x y i)) ∧ Below w.heap.size w w' := by
  by_cases h : i < x.size
  · rw [letter_lead h]
    have hb := get_bt x i h
    go_enter Try.func102, Try.ntmps102
    go_wp2
    go_ret
    exact ⟨rfl, by go_grown⟩
  · rw [letter_cycle h]
    have hm : (i - x.size) % y.size < y.size := Nat.mod_lt _ (by omega)
    have hb := get_bt y ((i - x.size) % y.size) hm
    have e1 : IntKind.i64.wrap ((i : Int) - (x.size : Int)) = ((i - x.size : Nat) : Int) := by
      rw [Go.IntWalk.i64_in _ (by omega)]
      omega
    have ht : (((i - x.size : Nat) : Int) % (y.size : Int)).toNat = (i - x.size) % y.size := rfl
    have h1 : 0 ≤ ((i - x.size : Nat) : Int) % (y.size : Int) := Int.natCast_nonneg ((i - x.size) % y.size)
    have h2 : ((i - x.size : Nat) : Int) % (y.size : Int) < (y.size : Int) := Int.ofNat_lt.2 hm
    have hye : ¬ (y = ByteArray.empty) := fun h => by rw [h] at hy0; exact absurd hy0 (by decide)
    have HB0 := hide ((Below.refl w.heap.size w).alloc (Nat.le_refl _) (.cells #[.string x, .string y] 129))
    go_enter Try.func102, Try.ntmps102
    go_wp2
    go_quiet (fail)
    go_wp2
    go_ret
    exact ⟨rfl, below_drewN HB0.out _⟩
set_option maxRecDepth 100000 in
set_option maxHeartbeats 400000 in
theorem spec_l04Letter (x y : ByteArray) (i : Nat) (w : World) (hx : x.size ≤ 6) (hy0 : 1 ≤ y.size) (hy : y.size ≤ 8) (hi : i ≤ 1000) :
    Calls Try.prog 148 #[.agg #[.string x, .string y], .int .i64 i] w fun e w' => e = .returned (.int .u8 (letterAt x y i)) ∧ Below w.heap.size w w' := by
  by_cases h : i < x.size
  · rw [letter_lead h]
    have hb := get_bt x i h
    go_enter Try.func148, Try.ntmps148
    go_wp2
    go_ret
    exact ⟨rfl, by go_grown⟩
  · rw [letter_cycle h]
    have hm : (i - x.size) % y.size < y.size := Nat.mod_lt _ (by omega)
    have hb := get_bt y ((i - x.size) % y.size) hm
    have e1 : IntKind.i64.wrap ((i : Int) - (x.size : Int)) = ((i - x.size : Nat) : Int) := by
      rw [Go.IntWalk.i64_in _ (by omega)]
      omega
    have ht : (((i - x.size : Nat) : Int) % (y.size : Int)).toNat = (i - x.size) % y.size := rfl
    have h1 : 0 ≤ ((i - x.size : Nat) : Int) % (y.size : Int) := Int.natCast_nonneg ((i - x.size) % y.size)
    have h2 : ((i - x.size : Nat) : Int) % (y.size : Int) < (y.size : Int) := Int.ofNat_lt.2 hm
    have hye : ¬ (y = ByteArray.empty) := fun h => by rw [h] at hy0; exact absurd hy0 (by decide)
    have HB0 := hide ((Below.refl w.heap.size w).alloc (Nat.le_refl _) (.cells #[.string x, .string y] 129))
    go_enter Try.func148, Try.ntmps148
    go_wp2
    go_quiet (fail)
    go_wp2
    go_ret
    exact ⟨rfl, below_drewN HB0.out _⟩
theorem own_empty_at (w : World) (base k : Nat) (t : TypeId) (g : Nat) (hg : w.heap.size = g) (hb : base ≤ w.heap.size) : (w.alloc (.cells #[] t)).ownsRow base t k (.slice (some ⟨g, 0, none⟩) 0 0) 0 [] := by
  subst hg
  exact own_empty w base k t hb
theorem below_pushB {a wr w1 : World} {B : Nat} {v : Value} {o : Obj} {n : Nat} {L : List Value} {t : TypeId} {k : Nat} (hb : Below B a wr) (hB : B ≤ a.heap.size) (hown : wr.ownsRow B t k v n L) (hg : (wr.alloc o).grownBy w1 v.ownBlock) : Below B a w1 :=
  (hb.alloc (Nat.le_trans hB hb.size) o).grown hg (by have := hb.size; simp; omega) (fun j hj => (hown.lt j hj).1)
theorem own_low1 {w : World} {base base' size n : Nat} {t : TypeId} {v : Value} {xs : List Value} (h : w.ownsRow base t size v n xs) (hb : base' ≤ base) : w.ownsRow base' t size v n xs :=
  ⟨h.1, h.2.imp id fun ⟨g, cap, cur, h1, h2, h3⟩ => ⟨g, cap, cur, h1, Nat.le_trans hb h2, h3⟩⟩
set_option maxRecDepth 100000 in
set_option maxHeartbeats 1000000 in
theorem impl_perpends (x y : ByteArray) (u : Int) (w : World) (hok : Course.ok ⟨x, y⟩ = true) (hu : 1 ≤ u) (hu2 : u ≤ 200) :
    Calls Try.prog 101 #[.agg #[.string x, .string y], .int .i64 u] w fun e w' => ∃ A' c', e = .returned (.slice A' (perps x y u).length c') ∧ Own 2 1 encI w' w.heap.size w'.heap.size A' (perps x y u).length c' (perps x y u) ∧ Below w.heap.size w w' := by
  obtain ⟨i0, hi, hz0, hz1, hz2⟩ := info_parts info_Int
  have HI := hide hi
  have HZ0 := hide hz0
  have HZ1 := hide hz1
  have HZ2 := hide hz2
  obtain ⟨hx, -, ⟨hy0, hy⟩, -⟩ := course_split hok
  have HK := hide hok
  clear hi hz0 hz1 hz2 hok
  go_enter Try.func101, Try.ntmps101
  go_wp2
  go_loopw [5, 6, 7] (fun v a i wr => ∃ k : Nat, ((k : Int) < u) ∧ i = .int .i64 k ∧ a = .int .i64 (sumQ x y k) ∧ Hid (sumQ x y k < u) ∧ Hid (wr.ownsRow (w.heap.size + 1) 2 1 v (perpsN x y k).length (flat encI (perpsN x y k))) ∧ Hid (Below (w.heap.size + 1) (w.alloc (.cells #[.string x, .string y] 129)) wr)) (fun _ _ i _ => (u - intOf i).toNat)
  case atStart => exact ⟨0, by omega, rfl, rfl, hide (show (0 : Int) < u by omega), hide (own_empty_at (w.alloc (.cells #[.string x, .string y] 129)) (w.heap.size + 1) _ _ _ (by simp) (by simp)), hide ((Below.refl _ _).alloc (by simp) _)⟩
  case round =>
    obtain ⟨k, hk, rfl, rfl, HU, HO, HB⟩ := hrel
    have hz := HB.out.size
    rw [show (w.alloc (.cells #[.string x, .string y] 129)).heap.size = w.heap.size + 1 from by simp] at hz
    have c0 := (HB.out.cell (p := ⟨w.heap.size, 0, none⟩) (by simp)).trans (show _ = some (.string x) from by simp [go_sem])
    have c1 := (HB.out.cell (p := ⟨w.heap.size, 1, none⟩) (by simp)).trans (show _ = some (.string y) from by simp [go_sem])
    have b1 := (sumQ_bd HK.out k).1
    have b2 := (sumQ_bd HK.out k).2
    have b3 := (letter_q HK.out k).1
    have b4 := (letter_q HK.out k).2
    have l1 := (letter_u8 x y k).1
    have l2 := (letter_u8 x y k).2
    have hlen : (perpsN x y k).length ≤ 1000 := by rw [perpsN_length]; omega
    have u1 := HU.out
    have hs : sumQ x y k + qI (letterAt x y k) = sumQ x y (k + 1) := rfl
    by_cases hge : u ≤ sumQ x y (k + 1)
    · have HP := hide (perps_is HK.out HU.out hge)
      go_wp2_with fail
      refine (impl_pieceAt x y k _ hx hy0 hy (by omega)).mono ?_
      rintro e w1 ⟨rfl, hb1⟩
      have HB1 := hide (HB.out.trans (hb1.mono hz))
      have HO1 := hide (own_below HO.out hb1)
      have hz1 : w.heap.size + 1 ≤ w1.heap.size := by have := hb1.size; omega
      clear hb1 c0 c1
      go_wp2_with fail
      refine (impl_quarters _ _ l1 l2).mono ?_
      rintro e w1 ⟨rfl, rfl⟩
      go_wp2
      obtain ⟨A', c', rfl, ho⟩ := Own.of_row rfl (own_low1 HO1.out (Nat.le_succ _)) (by omega)
      have HO' := hide ho
      clear ho
      go_wp2
      go_ret
      rw [HP.out]
      exact ⟨A', c', rfl, HO'.out, ((Below.refl w.heap.size w).alloc (Nat.le_refl _) _).trans (HB1.out.mono (Nat.le_succ _))⟩
    · have u2 : sumQ x y (k + 1) < u := by omega
      go_wp2_with fail
      refine (impl_pieceAt x y k _ hx hy0 hy (by omega)).mono ?_
      rintro e w1 ⟨rfl, hb1⟩
      have HB1 := hide (HB.out.trans (hb1.mono hz))
      have HO1 := hide (own_below HO.out hb1)
      have hz1 : w.heap.size + 1 ≤ w1.heap.size := by have := hb1.size; omega
      clear hb1 c0 c1
      go_wp2_with fail
      refine (impl_quarters _ _ l1 l2).mono ?_
      rintro e w1 ⟨rfl, rfl⟩
      go_wp2_with (at_builtin; go_loud (refine wpList_append_own _ rfl _ _ 29 rfl (w.heap.size + 1) 2 i0 (.int .i64 0) 1 8 Try.underlying29 HI.out HZ0.out HZ1.out HZ2.out rfl (by decide) _ _ _ rfl (HO1.out.alloc _) ⟨w1.heap.size, 0, none⟩ 1 1 [.int .i64 (sumQ x y (k + 1))] rfl rfl (cell_one_new _ _ _) (fun x hx => by simp at hx; subst hx; rfl) (by unfold maxLen; omega) (by omega) (by have := hz1; simp; omega) ?_; intro v' w2 hown' hgrow hnil))
      have HO' := hide (own_push hown' (perpsN_succ x y k))
      have HB' := hide (below_pushB HB1.out (by simp) HO1.out hgrow)
      clear hown' hgrow hnil
      go_roundw
      case rel => exact ⟨k + 1, by have := (sumQ_bd HK.out (k + 1)).1; omega, by go_num, rfl, hide u2, HO', HB'⟩
      case measure => simp [intOf]; omega
set_option maxRecDepth 100000 in
set_option maxHeartbeats 1000000 in
theorem spec_l04Perpends (x y : ByteArray) (u : Int) (w : World) (hok : Course.ok ⟨x, y⟩ = true) (hu : 1 ≤ u) (hu2 : u ≤ 200) :
    Calls Try.prog 105 #[.agg #[.string x, .string y], .int .i64 u] w fun e w' => ∃ A' c', e = .returned (.slice A' (perps x y u).length c') ∧ Own 2 1 encI w' w.heap.size w'.heap.size A' (perps x y u).length c' (perps x y u) ∧ Below w.heap.size w w' := by
  obtain ⟨i0, hi, hz0, hz1, hz2⟩ := info_parts info_Int
  have HI := hide hi
  have HZ0 := hide hz0
  have HZ1 := hide hz1
  have HZ2 := hide hz2
  obtain ⟨hx, -, ⟨hy0, hy⟩, -⟩ := course_split hok
  have HK := hide hok
  clear hi hz0 hz1 hz2 hok
  go_enter Try.func105, Try.ntmps105
  go_wp2
  go_loopw [5, 6, 7] (fun v a i wr => ∃ k : Nat, ((k : Int) ≤ u) ∧ i = .int .i64 k ∧ a = .int .i64 (sumQ x y k) ∧ Hid (k = 0 ∨ sumQ x y (k - 1) < u) ∧ Hid (wr.ownsRow (w.heap.size + 1) 2 1 v (perpsN x y (k - 1)).length (flat encI (perpsN x y (k - 1)))) ∧ Hid (Below (w.heap.size + 1) (w.alloc (.cells #[.string x, .string y] 129)) wr)) (fun _ _ i _ => (u + 1 - intOf i).toNat)
  case atStart => exact ⟨0, by omega, rfl, rfl, hide (.inl rfl), hide (own_empty_at (w.alloc (.cells #[.string x, .string y] 129)) (w.heap.size + 1) _ _ _ (by simp) (by simp)), hide ((Below.refl _ _).alloc (by simp) _)⟩
  case round =>
    obtain ⟨k, hk, rfl, rfl, HU, HO, HB⟩ := hrel
    have hz := HB.out.size
    rw [show (w.alloc (.cells #[.string x, .string y] 129)).heap.size = w.heap.size + 1 from by simp] at hz
    have c0 := (HB.out.cell (p := ⟨w.heap.size, 0, none⟩) (by simp)).trans (show _ = some (.string x) from by simp [go_sem])
    have c1 := (HB.out.cell (p := ⟨w.heap.size, 1, none⟩) (by simp)).trans (show _ = some (.string y) from by simp [go_sem])
    have b1 := (sumQ_bd HK.out k).1
    have b2 := (sumQ_bd HK.out k).2
    have b3 := (letter_q HK.out k).1
    have b4 := (letter_q HK.out k).2
    have l1 := (letter_u8 x y k).1
    have l2 := (letter_u8 x y k).2
    have hlen : (perpsN x y (k - 1)).length ≤ 1000 := by rw [perpsN_length]; omega
    by_cases hlt : sumQ x y k < u
    · have hs : sumQ x y k + qI (letterAt x y k) = sumQ x y (k + 1) := rfl
      by_cases h0 : k = 0
      · have HL2 := hide (show perpsN x y (k + 1 - 1) = perpsN x y (k - 1) from by rw [h0])
        have hd : decide (0 < sumQ x y k) = false := by rw [h0]; rfl
        have HUu := hide hlt
        clear h0
        go_wp2_with fail
        refine (spec_l04Letter x y k _ hx hy0 hy (by omega)).mono ?_
        rintro e w1 ⟨rfl, hb1⟩
        have HB1 := hide (HB.out.trans (hb1.mono hz))
        have HO1 := hide (own_below HO.out hb1)
        have hz1 : w.heap.size + 1 ≤ w1.heap.size := by have := hb1.size; omega
        clear hb1 c0 c1
        go_wp2_with fail
        refine (spec_quarters _ _ l1 l2).mono ?_
        rintro e w1 ⟨rfl, rfl⟩
        go_wp2
        go_roundw
        case rel => exact ⟨k + 1, by omega, by go_num, rfl, hide (.inr HUu.out), hide (by rw [HL2.out]; exact HO1.out), HB1⟩
        case measure => simp [intOf]; omega
      · have HL2 := hide (show perpsN x y (k + 1 - 1) = perpsN x y (k - 1) ++ [sumQ x y k] from by
          obtain ⟨j, rfl⟩ : ∃ j, k = j + 1 := ⟨k - 1, by omega⟩
          exact perpsN_succ x y j)
        have hd : decide (0 < sumQ x y k) = true := by simp; omega
        have HUu := hide hlt
        have hz1 := hz
        go_wp2_with (at_builtin; go_loud (refine wpList_append_own _ rfl _ _ 29 rfl (w.heap.size + 1) 2 i0 (.int .i64 0) 1 8 Try.underlying29 HI.out HZ0.out HZ1.out HZ2.out rfl (by decide) _ _ _ rfl (HO.out.alloc _) ⟨wr.heap.size, 0, none⟩ 1 1 [.int .i64 (sumQ x y k)] rfl rfl (cell_one_new _ _ _) (fun x hx => by simp at hx; subst hx; rfl) (by unfold maxLen; omega) (by omega) (by have := hz1; simp; omega) ?_; intro v' w2 hown' hgrow hnil); have HO' := hide (own_push hown' HL2.out); have HB' := hide (below_pushB HB.out (by simp) HO.out hgrow); have hz2 : w.heap.size + 1 ≤ w2.heap.size := (by have hq := HB'.out.size; simp at hq; omega); clear hown' hgrow hnil c0 c1; have c0 := (HB'.out.cell (p := ⟨w.heap.size, 0, none⟩) (by simp)).trans (show _ = some (.string x) from by simp [go_sem]); have c1 := (HB'.out.cell (p := ⟨w.heap.size, 1, none⟩) (by simp)).trans (show _ = some (.string y) from by simp [go_sem]))
        go_wp2_with fail
        refine (spec_l04Letter x y k _ hx hy0 hy (by omega)).mono ?_
        rintro e w1 ⟨rfl, hb1⟩
        have HB1 := hide (HB'.out.trans (hb1.mono hz2))
        have HO1 := hide (own_below HO'.out hb1)
        have hz3 : w.heap.size + 1 ≤ w1.heap.size := by have := hb1.size; omega
        clear hb1 c0 c1
        go_wp2_with fail
        refine (spec_quarters _ _ l1 l2).mono ?_
        rintro e w1 ⟨rfl, rfl⟩
        go_wp2
        go_roundw
        case rel => exact ⟨k + 1, by omega, by go_num, rfl, hide (.inr HUu.out), HO1, HB1⟩
        case measure => simp [intOf]; omega
    · have HP := hide (show perps x y u = perpsN x y (k - 1) from by
        rcases HU.out with h0 | h0
        · rw [h0] at hlt
          exact absurd (show (0 : Int) < u by omega) hlt
        · obtain ⟨j, rfl⟩ : ∃ j, k = j + 1 := ⟨k - 1, by
            rcases k with _ | j
            · exact absurd (show (0 : Int) < u by omega) hlt
            · omega⟩
          have e1 : perps x y u = perpsN x y j := perps_is HK.out (by simpa using h0) (by omega)
          simpa using e1)
      go_wp2
      obtain ⟨A', c', rfl, ho⟩ := Own.of_row rfl (own_low1 HO.out (Nat.le_succ _)) (by omega)
      have HO' := hide ho
      clear ho
      go_wp2
      go_ret
      rw [HP.out]
      exact ⟨A', c', rfl, HO'.out, ((Below.refl w.heap.size w).alloc (Nat.le_refl _) _).trans (HB.out.mono (Nat.le_succ _))⟩
end Go.Proofs.Ytfjnhocmkafnbaa
