/-
  What is proved: the decimal text of a number, of the program and of the reference. Conditions: a number of 64 bits; the library's own table holds what its initialiser lays.
-/
import Derived.Test.YtjoepnmmcagggaaDoorDecP
import Derived.Test.YtjoepnmmcagggaaDoorStrS
import Derived.Laws.AppendOwn
import Derived.OwnWalk
import Derived.Laws.IdiomStrings
import Derived.Lib.UnsafeStr
import Derived.Lib.BufferWrite
namespace Go.Proofs.YtjoepnmmcagggaaDoor
open Go.RowKit
set_option linter.unusedVariables false

theorem own_one (w : World) (base : Nat) (t : TypeId) (v : Value) (hb : base ≤ w.heap.size) : (w.alloc (.cells #[v] t)).ownsRow base t 1 (.slice (some ⟨w.heap.size, 0, none⟩) 1 1) 1 [v] :=
  ⟨rfl, .inr ⟨w.heap.size, 1, #[v], rfl, hb, (show (w.heap.push (.cells #[v] t))[w.heap.size]? = _ from Array.getElem?_push_size), Nat.le_refl _, by unfold maxLen; omega, rfl, rfl⟩⟩
theorem info_U8 : (Tryd.prog.info? 5).map (fun i => (i.zero, i.size, i.bytes)) = some (some (.int .u8 0), 1, 1) := by kernel_rfl
theorem own_slice {w : World} {base n : Nat} {t : TypeId} {v : Value} {L : List Value} {k : Nat} (h : w.ownsRow base t k v n L) (hn : 0 < n) : ∃ g cap, v = .slice (some ⟨g, 0, none⟩) n cap ∧ base ≤ g ∧ g < w.heap.size := by
  rcases h.2 with ⟨_, h0⟩ | ⟨g, cap, cur, rfl, hb, hg, _⟩
  · omega
  · exact ⟨g, cap, rfl, hb, (Array.getElem?_eq_some_iff.1 hg).1⟩
theorem dig_cell (m : Nat) : (Value.int .u8 (48 + (m : Int) % 10)) = .int .u8 ((UInt8.ofNat (48 + m % 10)).toNat : Int) := by
  rw [dig_toNat _ (Nat.mod_lt _ (by decide))]
  congr 1
theorem dec_b0 : decB ((0 : Nat) : Int) = ⟨#[48]⟩ := by
  unfold decB
  rw [itoa_pos (by omega), show ((0 : Nat) : Int).toNat = 0 from rfl, Lib.decDigits_one (by decide)]
  rfl
theorem bytes_step {w : World} {base : Nat} {t : TypeId} {v : Value} {L M : List UInt8} {m : Nat} {x : Int} (hx : x = 48 + (m : Int) % 10) (h : w.ownsRow base t 1 v (1 + L.length) ([Value.int .u8 x] ++ Lib.byteCells L)) (hM : M = UInt8.ofNat (48 + m % 10) :: L) : w.ownsRow base t 1 v M.length (Lib.byteCells M) := by
  subst hM hx
  rw [dig_cell] at h
  rw [List.length_cons, Nat.add_comm]
  exact h
theorem str_of (w : World) (base : Nat) (g cap : Nat) (L : List UInt8) (h : w.ownsRow base 5 1 (.slice (some ⟨g, 0, none⟩) L.length cap) L.length (Lib.byteCells L)) :
    (convert 59 9 (.slice (some ⟨g, 0, none⟩) L.length cap)).run Tryd.prog w = .ok (.string (ba L)) w :=
  run_convert_bytes_back w 59 9 5 ⟨g, 0, none⟩ cap L Tryd.underlying59 Tryd.underlying5 Tryd.underlying9 (fun j hj => h.cells (g := g) rfl j _ (by unfold Lib.byteCells; rw [List.getElem?_map, List.getElem?_eq_getElem hj]; rfl))
theorem dec_next {m u : Nat} {L : List UInt8} (h : m ≠ 0) (hd : decD m ++ L = decD u) : decD (m / 10) ++ (UInt8.ofNat (48 + m % 10) :: L) = decD u := by
  rw [← hd, dec_step m h, List.append_assoc]
  rfl
theorem dec_last {u : Nat} {L : List UInt8} (hd : decD 0 ++ L = decD u) (hu : u ≠ 0) : L = Lib.decDigits u := by
  unfold decD at hd
  rw [if_pos rfl, if_neg hu, List.nil_append] at hd
  exact hd
theorem dec_zero {L : List UInt8} (hd : decD 0 ++ L = decD 0) : L = [] := by
  unfold decD at hd
  rw [if_pos rfl, List.nil_append] at hd
  exact hd
set_option maxRecDepth 100000 in
set_option maxHeartbeats 2000000 in
theorem spec_dec_pos (n : Int) (w : World) (h0 : 0 ≤ n) (h1 : n ≤ 9223372036854775807) :
    Calls Tryd.prog 48 #[.int .i64 n] w fun e w' => e = .returned (.string (decB n)) ∧ Below w.heap.size w w' := by
  obtain ⟨i0, hi, hz0, hz1, hz2⟩ := info_parts info_U8
  have HI := hide hi
  have HZ0 := hide hz0
  have HZ1 := hide hz1
  have HZ2 := hide hz2
  clear hi hz0 hz1 hz2
  obtain ⟨u, rfl⟩ : ∃ u : Nat, n = (u : Int) := ⟨n.toNat, by omega⟩
  go_enter Tryd.func48, Tryd.ntmps48
  go_wp2
  go_loopw [3, 4] (fun v k wr => ∃ (m f g cap : Nat) (L : List UInt8), v = .slice (some ⟨g, 0, none⟩) L.length cap ∧ k = .int .i64 (m : Int) ∧ m ≤ u ∧ m < 10 ^ f ∧ f + L.length ≤ 19 ∧ Hid (decD m ++ L = decD u) ∧ Hid (wr.ownsRow w.heap.size 5 1 (.slice (some ⟨g, 0, none⟩) L.length cap) L.length (Lib.byteCells L)) ∧ Hid (Below w.heap.size w wr)) (fun _ k _ => (intOf k).toNat)
  case atStart => exact ⟨u, 19, w.heap.size, 0, [], rfl, rfl, Nat.le_refl _, by omega, by simp, hide (by simp), hide (own_empty w _ _ _ (Nat.le_refl _)), hide ((Below.refl _ _).alloc (Nat.le_refl _) _)⟩
  case round =>
    obtain ⟨m, f, g, cap, L, rfl, rfl, hmu, hm, hf, HD, HO, HB⟩ := hrel
    have hz := HB.out.size
    by_cases hlt : m = 0
    · subst hlt
      have hL := hide (str_of wr _ g cap L HO.out)
      by_cases hu : u = 0
      · subst hu
        obtain rfl := dec_zero HD.out
        go_wp2
        go_ret
        exact ⟨by rw [dec_b0]; rfl, HB.out⟩
      · have hl := dec_last HD.out hu
        have hp : 0 < L.length := by rw [hl]; exact List.length_pos_iff.2 (dec_ne u)
        have HL := hide hl
        have hne : ((L.length : Int) == 0) = false := by rw [beq_eq_false_iff_ne]; omega
        have hcv := hL.out
        clear hl
        go_wp2
        go_ret
        refine ⟨?_, HB.out⟩
        rw [HL.out]
        unfold decB
        rw [itoa_pos (by omega)]
        rfl
    · obtain ⟨q, rfl⟩ : ∃ q, f = q + 1 := by
        rcases f with _ | q
        · simp at hm; omega
        · exact ⟨q, rfl⟩
      have HS := hide (dec_next hlt HD.out)
      have hm2 : m / 10 < 10 ^ q := Nat.div_lt_of_lt_mul (by rw [Nat.pow_succ] at hm; omega)
      have hm3 : (10 : Nat) ^ q ≤ 10 ^ 18 := Nat.pow_le_pow_right (by omega) (by omega)
      have hmm : (m : Int) ≤ 9223372036854775807 := by omega
      have hne : ((m : Int) != 0) = true := by simp; omega
      have hw := Go.IntWalk.i64_in ((m : Int) / 10) ⟨by omega, by omega⟩
      have H1 := hide (own_one wr w.heap.size 5 (.int .u8 (48 + (m : Int) % 10)) hz)
      have hlt' := hlt
      clear hm hlt
      go_wp2_with (at_builtin; refine wpList_append_own _ rfl _ _ 59 rfl w.heap.size 5 i0 (.int .u8 0) 1 1 Tryd.underlying59 HI.out HZ0.out HZ1.out HZ2.out rfl (by decide) _ _ _ rfl H1.out ⟨g, 0, none⟩ L.length cap (Lib.byteCells L) rfl (by rw [Lib.byteCells_length, Nat.mul_one]) ((HO.out.alloc _).cells (g := g) rfl) (Lib.byteCells_one L) (by unfold maxLen; omega) (by omega) (by simp; omega) ?_; intro v' w2 hown' hgrow hnil)
      have HB' := hide ((HB.out.alloc HB.out.size _).grown hgrow (by simp; omega) (fun j hj => (H1.out.lt j hj).1))
      have ho2 := bytes_step (m := m) rfl (M := UInt8.ofNat (48 + m % 10) :: L) hown' rfl
      obtain ⟨g2, cap2, rfl, hg1, hg2⟩ := own_slice ho2 (by rw [List.length_cons]; omega)
      have HO2 := hide ho2
      clear hown' hgrow hnil ho2
      go_roundw
      case rel => exact ⟨m / 10, q, g2, cap2, UInt8.ofNat (48 + m % 10) :: L, rfl, by go_num, by omega, hm2, by rw [List.length_cons]; omega, HS, HO2, HB'⟩
      case measure => simp [intOf]; omega
set_option maxRecDepth 100000 in
set_option maxHeartbeats 2000000 in
theorem spec_dec_neg (n : Int) (w : World) (h0 : n < 0) (h1 : -9223372036854775808 ≤ n) :
    Calls Tryd.prog 48 #[.int .i64 n] w fun e w' => e = .returned (.string (decB n)) ∧ Below w.heap.size w w' := by
  obtain ⟨i0, hi, hz0, hz1, hz2⟩ := info_parts info_U8
  have HI := hide hi
  have HZ0 := hide hz0
  have HZ1 := hide hz1
  have HZ2 := hide hz2
  clear hi hz0 hz1 hz2
  obtain ⟨u, rfl⟩ : ∃ u : Nat, n = -(u : Int) := ⟨n.natAbs, by omega⟩
  have hup : 0 < u := by omega
  go_enter Tryd.func48, Tryd.ntmps48
  go_wp2
  go_loopw [3, 4] (fun v k wr => ∃ (m f g cap : Nat) (L : List UInt8), v = .slice (some ⟨g, 0, none⟩) L.length cap ∧ k = .int .i64 (-(m : Int)) ∧ m ≤ u ∧ m < 10 ^ f ∧ f + L.length ≤ 19 ∧ Hid (decD m ++ L = decD u) ∧ Hid (wr.ownsRow w.heap.size 5 1 (.slice (some ⟨g, 0, none⟩) L.length cap) L.length (Lib.byteCells L)) ∧ Hid (Below w.heap.size w wr)) (fun _ k _ => (intOf k).natAbs)
  case atStart => exact ⟨u, 19, w.heap.size, 0, [], rfl, rfl, Nat.le_refl _, by omega, by simp, hide (by simp), hide (own_empty w _ _ _ (Nat.le_refl _)), hide ((Below.refl _ _).alloc (Nat.le_refl _) _)⟩
  case round =>
    obtain ⟨m, f, g, cap, L, rfl, rfl, hmu, hm, hf, HD, HO, HB⟩ := hrel
    have hz := HB.out.size
    by_cases hlt : m = 0
    · subst hlt
      have hL := hide (str_of wr _ g cap L HO.out)
      have hl := dec_last HD.out (by omega)
      have hp : 0 < L.length := by rw [hl]; exact List.length_pos_iff.2 (dec_ne u)
      have HL := hide hl
      have hne : ((L.length : Int) == 0) = false := by rw [beq_eq_false_iff_ne]; omega
      have hcv := hL.out
      have hbs : (ba L).size ≤ 19 := by rw [show (ba L).size = L.length from by simp [ba, ByteArray.size]]; omega
      clear hl
      go_wp2
      go_ret
      refine ⟨?_, HB.out⟩
      rw [HL.out]
      unfold decB
      rw [itoa_min (by omega), show (-(u : Int)).natAbs = u from by omega]
      rfl
    · obtain ⟨q, rfl⟩ : ∃ q, f = q + 1 := by
        rcases f with _ | q
        · simp at hm; omega
        · exact ⟨q, rfl⟩
      have HS := hide (dec_next hlt HD.out)
      have hm2 : m / 10 < 10 ^ q := Nat.div_lt_of_lt_mul (by rw [Nat.pow_succ] at hm; omega)
      have hm3 : (10 : Nat) ^ q ≤ 10 ^ 18 := Nat.pow_le_pow_right (by omega) (by omega)
      have hne : ((-(m : Int)) != 0) = true := by simp; omega
      have hq : (-(m : Int)).tdiv 10 = -((m : Int) / 10) := by rw [Int.neg_tdiv]; rfl
      have hmm : (m : Int) ≤ 9223372036854775808 := by omega
      by_cases hd : 0 < (m : Int) % 10
      · have hr : (-(m : Int)).tmod 10 = -((m : Int) % 10) := by rw [Int.neg_tmod]; rfl
        have H1 := hide (own_one wr w.heap.size 5 (.int .u8 (48 + (m : Int) % 10)) hz)
        have hlt' := hlt
        clear hm hlt
        go_wp2_with (at_builtin; refine wpList_append_own _ rfl _ _ 59 rfl w.heap.size 5 i0 (.int .u8 0) 1 1 Tryd.underlying59 HI.out HZ0.out HZ1.out HZ2.out rfl (by decide) _ _ _ rfl H1.out ⟨g, 0, none⟩ L.length cap (Lib.byteCells L) rfl (by rw [Lib.byteCells_length, Nat.mul_one]) ((HO.out.alloc _).cells (g := g) rfl) (Lib.byteCells_one L) (by unfold maxLen; omega) (by omega) (by simp; omega) ?_; intro v' w2 hown' hgrow hnil)
        have HB' := hide ((HB.out.alloc HB.out.size _).grown hgrow (by simp; omega) (fun j hj => (H1.out.lt j hj).1))
        have ho2 := bytes_step (m := m) rfl (M := UInt8.ofNat (48 + m % 10) :: L) hown' rfl
        obtain ⟨g2, cap2, rfl, hg1, hg2⟩ := own_slice ho2 (by rw [List.length_cons]; omega)
        have HO2 := hide ho2
        clear hown' hgrow hnil ho2
        go_roundw
        case rel => exact ⟨m / 10, q, g2, cap2, UInt8.ofNat (48 + m % 10) :: L, rfl, by go_num, by omega, hm2, by rw [List.length_cons]; omega, HS, HO2, HB'⟩
        case measure => simp [intOf]; omega
      · have hr : (-(m : Int)).tmod 10 = 0 := by rw [Int.neg_tmod, show (m : Int).tmod 10 = (m : Int) % 10 from rfl]; omega
        have H1 := hide (own_one wr w.heap.size 5 (.int .u8 48) hz)
        have hlt' := hlt
        clear hm hlt
        go_wp2_with (at_builtin; refine wpList_append_own _ rfl _ _ 59 rfl w.heap.size 5 i0 (.int .u8 0) 1 1 Tryd.underlying59 HI.out HZ0.out HZ1.out HZ2.out rfl (by decide) _ _ _ rfl H1.out ⟨g, 0, none⟩ L.length cap (Lib.byteCells L) rfl (by rw [Lib.byteCells_length, Nat.mul_one]) ((HO.out.alloc _).cells (g := g) rfl) (Lib.byteCells_one L) (by unfold maxLen; omega) (by omega) (by simp; omega) ?_; intro v' w2 hown' hgrow hnil)
        have HB' := hide ((HB.out.alloc HB.out.size _).grown hgrow (by simp; omega) (fun j hj => (H1.out.lt j hj).1))
        have ho2 := bytes_step (m := m) (x := 48) (by omega) (M := UInt8.ofNat (48 + m % 10) :: L) hown' rfl
        obtain ⟨g2, cap2, rfl, hg1, hg2⟩ := own_slice ho2 (by rw [List.length_cons]; omega)
        have HO2 := hide ho2
        clear hown' hgrow hnil ho2
        go_roundw
        case rel => exact ⟨m / 10, q, g2, cap2, UInt8.ofNat (48 + m % 10) :: L, rfl, by go_num, by omega, hm2, by rw [List.length_cons]; omega, HS, HO2, HB'⟩
        case measure => simp [intOf]; omega
theorem spec_dec (n : Int) (w : World) (h : I64 n) : Calls Tryd.prog 48 #[.int .i64 n] w fun e w' => e = .returned (.string (decB n)) ∧ Below w.heap.size w w' := by
  by_cases h0 : 0 ≤ n
  · exact spec_dec_pos n w h0 h.2
  · exact spec_dec_neg n w (by omega) h.1
end Go.Proofs.YtjoepnmmcagggaaDoor
