/-
  What is proved: how often each mould is used, of the program and of the reference. Conditions: lengths that fit.
-/
import Derived.Test.YtgobpleckeeheaaMouldOk
import Derived.Test.YtgobpleckeeheaaIntS
import Derived.Laws.AppendOwn
import Derived.OwnWalk
namespace Go.Proofs.Ytgobpleckeeheaa
open Go.RowKit
set_option linter.unusedVariables false

def usesAt (zs : List Mould) (i : Nat) : Int := match zs[i]? with | some z => z.u | none => 0
def bestK (zs : List Mould) (out : List Int) : Nat → Nat
  | 0 => 0
  | k + 1 => if usesAt zs k + out.getD k 0 < usesAt zs (bestK zs out k) + out.getD (bestK zs out k) 0 then k else bestK zs out k
def share (zs : List Mould) (n : Nat) : Nat → List Int
  | 0 => List.replicate n 0
  | t + 1 => (share zs n t).set (bestK zs (share zs n t) n) ((share zs n t).getD (bestK zs (share zs n t) n) 0 + 1)
theorem share_len (zs : List Mould) (n t : Nat) : (share zs n t).length = n := by
  induction t with
  | zero => simp [share]
  | succ t ih => simp [share, ih]
theorem bestK_lt (zs : List Mould) (out : List Int) (k n : Nat) (h : k ≤ n) (hn : 0 < n) : bestK zs out k < n := by
  induction k with
  | zero => exact hn
  | succ k ih =>
    unfold bestK
    split
    · omega
    · exact ih (by omega)
theorem share_at (zs : List Mould) (n t i : Nat) : 0 ≤ (share zs n t).getD i 0 ∧ (share zs n t).getD i 0 ≤ t := by
  induction t generalizing i with
  | zero =>
    unfold share
    rw [List.getD_eq_getElem?_getD, List.getElem?_replicate]
    split <;> simp
  | succ t ih =>
    unfold share
    rw [List.getD_eq_getElem?_getD, List.getElem?_set]
    have h1 := ih i
    have h2 := ih (bestK zs (share zs n t) n)
    rw [List.getD_eq_getElem?_getD] at h1
    split
    · split
      · simp only [Option.getD_some]; omega
      · simp only [Option.getD_none]; omega
    · omega
theorem usesAt_is {zs : List Mould} {i : Nat} {z : Mould} (h : zs[i]? = some z) : usesAt zs i = z.u := by
  unfold usesAt
  rw [h]
theorem moulds_uses {zs : List Mould} {i : Nat} {z : Mould} (h : mouldsOk zs = true) (hi : zs[i]? = some z) : 0 ≤ z.u ∧ z.u ≤ 100000 := by
  unfold mouldsOk at h
  rw [Bool.and_eq_true, List.all_eq_true] at h
  have h2 : z.Ok := of_decide_eq_true (h.2 z (List.mem_of_getElem? hi))
  exact h2.2.2.2
def shareL (zs : List Mould) (t : Int) : List Int := if mouldsOk zs = true ∧ (0 ≤ t ∧ t ≤ 2000) ∧ 0 < zs.length then share zs zs.length t.toNat else []
def shareC (zs : List Mould) (t : Int) : Int := if mouldsOk zs = true then (if 0 ≤ t ∧ t ≤ 2000 then (if 0 < zs.length then 0 else 3) else 2) else 1

set_option maxHeartbeats 1000000 in
theorem spec_share_yes (A : Option Addr) (n c : Nat) (zs : List Mould) (m : Int) (w : World) (hn : n ≤ 16777216) (hl : zs.length = n) (h : Row Mould.enc 4 w A zs) (hv : mouldsOk zs = true) (h0 : 0 ≤ m) (h1 : m ≤ 2000) (hp : 0 < n) :
    Calls Try.prog 22 #[.slice A n c, .int .i64 m] w fun e w' => ∃ A' c', e = .returned (.tuple #[.slice A' (share zs n m.toNat).length c', .int .i64 0]) ∧ Own 2 1 encI w' w.heap.size w'.heap.size A' (share zs n m.toNat).length c' (share zs n m.toNat) ∧ Below w.heap.size w w' := by
  obtain ⟨i0, hi, hz0, hz1, hz2⟩ := info_parts (show (Try.prog.info? 2).map (fun i => (i.zero, i.size, i.bytes)) = some (some (.int .i64 0), 1, 8) from by kernel_rfl)
  have HA := hide h
  have HL := hide hl
  have hnm : n ≤ 9223372036854775807 := by omega
  have dn : ((n : Int) == 0) = false := by simp; omega
  clear h hl
  go_enter Try.func22, Try.ntmps22
  go_wp2_with fail
  refine (spec_l05Ok _ _ _ zs _ hn HL.out HA.out).mono ?_
  rintro e w1 ⟨rfl, rfl⟩
  rw [hv]
  go_wp2_with fail
  refine (spec_in_yes _ _ _ _ h0 h1).mono ?_
  rintro e w1 ⟨rfl, rfl⟩
  go_wp2_with (at_make; refine wpList_make_full _ rfl _ _ _ rfl w.heap.size 2 i0 _ 1 Try.underlying29 hi hz0 hz1 .i64 .i64 _ _ n rfl rfl rfl rfl (by rw [hz2]; omega) (by unfold maxLen; omega) (Nat.le_refl _) ?_; intro w1 hown1 hg1)
  clear hi hz0 hz1 hz2
  go_loopw [7] (fun t wr => ∃ k : Nat, (k : Int) ≤ m ∧ t = .int .i64 k ∧ Hid (wr.ownsRow w.heap.size 2 1 (.slice (some ⟨w.heap.size, 0, none⟩) n n) n (flat encI (share zs n k))) ∧ Hid (Below w.heap.size w wr)) (fun t _ => m.toNat - (intOf t).toNat)
  case atStart => exact ⟨0, by omega, rfl, hide (by rw [made_ints] at hown1; exact hown1), hide ((Below.refl _ _).grown hg1 (Nat.le_refl _) (by simp))⟩
  case round =>
    obtain ⟨k, hk, rfl, HO, HB⟩ := hrel
    by_cases hlt : (k : Int) < m
    · go_wp2
      have hm0 := share_at zs n k
      go_loopw [8, 9] (fun b i wi => ∃ j : Nat, 1 ≤ j ∧ j ≤ n ∧ i = .int .i64 j ∧ b = .int .i64 (bestK zs (share zs n k) j) ∧ ∃ q, wi = wr.drewN q) (fun _ i _ => n - (intOf i).toNat)
      case atStart => exact ⟨1, by omega, by omega, rfl, by simp [bestK], 0, rfl⟩
      case round =>
        obtain ⟨j, hj1, hj, rfl, rfl, q, rfl⟩ := hrel
        by_cases hltj : j < n
        · obtain ⟨⟨x0, x1, x2, x3⟩, hzk⟩ : ∃ z, zs[j]? = some z := ⟨zs[j]'(by have := HL.out; omega), List.getElem?_eq_getElem (by have := HL.out; omega)⟩
          have hbl := bestK_lt zs (share zs n k) j n (by omega) hp
          generalize hbj : bestK zs (share zs n k) j = bj at hbl ⊢
          obtain ⟨⟨y0, y1, y2, y3⟩, hyk⟩ : ∃ z, zs[bj]? = some z := ⟨zs[bj]'(by have := HL.out; omega), List.getElem?_eq_getElem (by have := HL.out; omega)⟩
          obtain ⟨b, off, rfl, hb, a0, a1, a2, a3⟩ := row_at_4 (HA.out.below HB.out) hzk rfl
          obtain ⟨b', off', heq, hb', c0, c1, c2, c3⟩ := row_at_4 (HA.out.below HB.out) hyk rfl
          cases heq
          have sj : (share zs n k)[j]? = some ((share zs n k).getD j 0) := by
            rw [List.getD_eq_getElem?_getD, List.getElem?_eq_getElem (by rw [share_len]; omega)]; rfl
          have sb : (share zs n k)[bj]? = some ((share zs n k).getD bj 0) := by
            rw [List.getD_eq_getElem?_getD, List.getElem?_eq_getElem (by rw [share_len]; omega)]; rfl
          have oj := (own_int_at HO.out sj).1
          have ob := (own_int_at HO.out sb).1
          have rj := hm0 j
          have rb := hm0 bj
          have vx := moulds_uses hv hzk
          have vy := moulds_uses hv hyk
          have hstep : bestK zs (share zs n k) (j + 1) = if x3 + (share zs n k).getD j 0 < y3 + (share zs n k).getD bj 0 then j else bj := by
            rw [bestK, hbj, usesAt_is hzk, usesAt_is hyk]
          have HS := hide hstep
          clear hstep hbj hzk hyk sj sb hm0
          generalize (share zs n k).getD j 0 = sj at *
          generalize (share zs n k).getD bj 0 = sb at *
          by_cases hc : x3 + sj < y3 + sb
          · have HC := hide (HS.out.trans (if_pos hc))
            go_wp2
            go_quiet (fail)
            go_wp2
            go_roundw
            case rel => exact ⟨j + 1, by omega, by omega, by go_num, by rw [HC.out], _, rfl⟩
            case measure => simp [intOf]; omega
          · have HC := hide (HS.out.trans (if_neg hc))
            go_wp2
            go_quiet (fail)
            go_wp2
            go_roundw
            case rel => exact ⟨j + 1, by omega, by omega, by go_num, by rw [HC.out], _, rfl⟩
            case measure => simp [intOf]; omega
        · obtain rfl : j = n := by omega
          have hbl := bestK_lt zs (share zs j k) j j (Nat.le_refl _) hp
          have rb := hm0 (bestK zs (share zs j k) j)
          have HS := hide (show share zs j (k + 1) = (share zs j k).set (bestK zs (share zs j k) j) ((share zs j k).getD (bestK zs (share zs j k) j) 0 + 1) from rfl)
          have sb : (share zs j k)[bestK zs (share zs j k) j]? = some ((share zs j k).getD (bestK zs (share zs j k) j) 0) := by
            rw [List.getD_eq_getElem?_getD, List.getElem?_eq_getElem (by rw [share_len]; omega)]; rfl
          obtain ⟨ob, fb⟩ := own_int_at HO.out sb
          clear sb hm0
          generalize (share zs j k).getD (bestK zs (share zs j k) j) 0 = vb at *
          generalize bestK zs (share zs j k) j = bj at *
          go_wp2
          go_roundw
          case rel =>
            have h1 := own_int_set (vb + 1) (show (wr.drewN q).ownsRow _ _ _ _ _ _ from HO.out) hbl
            refine ⟨k + 1, by omega, by go_num, hide (by rw [HS.out]; exact h1.1), hide (HB.out.trans ?_)⟩
            exact (below_drewN (Below.refl _ _) q).trans (grown_below h1.2 (Nat.le_refl _) HB.out.size)
          case measure => simp [intOf]; omega
    · obtain rfl : m = (k : Int) := by omega
      go_wp2
      go_ret2
      exact ⟨some ⟨w.heap.size, 0, none⟩, n, by rw [share_len]; rfl, ⟨rfl, by rw [share_len]; exact HO.out, fun a ha => by
        obtain rfl := Option.some.inj ha
        exact (own_lt HO.out).2, Nat.le_refl _⟩, HB.out⟩
end Go.Proofs.Ytgobpleckeeheaa
