/-
  What is proved: the worn moulds of a list, of the program and of the reference. Conditions: lengths that fit.
-/
import Derived.Test.YtgobpleckeeheaaMouldOk
import Derived.Test.YtgobpleckeeheaaIntS
import Derived.Laws.AppendOwn
import Derived.OwnWalk
namespace Go.Proofs.Ytgobpleckeeheaa
open Go.RowKit
set_option linter.unusedVariables false

def wornB (zs : List Mould) (m : Int) (i : Nat) : Bool := match zs[i]? with | some z => decide (m < z.u) | none => false
def wornK (zs : List Mould) (m : Int) (k : Nat) : List Int := ((List.range k).filter (wornB zs m)).map fun i : Nat => (i : Int)
theorem wornK_yes {zs : List Mould} {m : Int} {k : Nat} {x : Mould} (h : zs[k]? = some x) (hm : m < x.u) : wornK zs m (k + 1) = wornK zs m k ++ [(k : Int)] := by
  unfold wornK
  rw [List.range_succ, List.filter_append, List.map_append]
  simp [wornB, h, hm]
theorem wornK_no {zs : List Mould} {m : Int} {k : Nat} {x : Mould} (h : zs[k]? = some x) (hm : ¬ m < x.u) : wornK zs m (k + 1) = wornK zs m k := by
  unfold wornK
  rw [List.range_succ, List.filter_append, List.map_append]
  simp [wornB, h, hm]
theorem wornK_len (zs : List Mould) (m : Int) (k : Nat) : (wornK zs m k).length ≤ k := by
  unfold wornK
  rw [List.length_map]
  exact Nat.le_trans (List.length_filter_le _ _) (by rw [List.length_range]; exact Nat.le_refl _)
def wornL (zs : List Mould) (m : Int) : List Int := if mouldsOk zs = true ∧ 0 ≤ m ∧ m ≤ 100000 then wornK zs m zs.length else []
def wornC (zs : List Mould) (m : Int) : Int := if mouldsOk zs = true then (if 0 ≤ m ∧ m ≤ 100000 then 0 else 2) else 1
theorem info_Int : (Try.prog.info? 2).map (fun i => (i.zero, i.size, i.bytes)) = some (some (.int .i64 0), 1, 8) := by kernel_rfl

set_option maxHeartbeats 1000000 in
theorem spec_worn_yes (A : Option Addr) (n c : Nat) (zs : List Mould) (m : Int) (w : World) (hn : n ≤ 16777216) (hl : zs.length = n) (h : Row Mould.enc 4 w A zs) (hv : mouldsOk zs = true) (h0 : 0 ≤ m) (h1 : m ≤ 100000) :
    Calls Try.prog 31 #[.slice A n c, .int .i64 m] w fun e w' => ∃ A' c', e = .returned (.tuple #[.slice A' (wornK zs m n).length c', .int .i64 0]) ∧ Own 2 1 encI w' w.heap.size w'.heap.size A' (wornK zs m n).length c' (wornK zs m n) ∧ Below w.heap.size w w' := by
  obtain ⟨i0, hi, hz0, hz1, hz2⟩ := info_parts info_Int
  have HA := hide h
  have HL := hide hl
  have HI := hide hi
  have HZ0 := hide hz0
  have HZ1 := hide hz1
  have HZ2 := hide hz2
  have hnm : n ≤ 9223372036854775807 := by omega
  clear h hi hz0 hz1 hz2 hl
  go_enter Try.func31, Try.ntmps31
  go_wp2_with fail
  refine (spec_l05Ok _ _ _ zs _ hn HL.out HA.out).mono ?_
  rintro e w1 ⟨rfl, rfl⟩
  rw [hv]
  go_wp2_with fail
  refine (spec_in_yes _ _ _ _ h0 h1).mono ?_
  rintro e w1 ⟨rfl, rfl⟩
  go_wp2
  go_loopw [6, 7] (fun v i wr => ∃ k : Nat, k ≤ n ∧ i = .int .i64 k ∧ Hid (wr.ownsRow w.heap.size 2 1 v (wornK zs m k).length (flat encI (wornK zs m k))) ∧ Hid (Below w.heap.size w wr)) (fun _ i _ => n - (intOf i).toNat)
  case atStart => exact ⟨0, by omega, rfl, hide (own_empty w _ _ _ (Nat.le_refl _)), hide ((Below.refl _ _).alloc (Nat.le_refl _) _)⟩
  case round =>
    obtain ⟨k, hk, rfl, HO, HB⟩ := hrel
    by_cases hlt : k < n
    · obtain ⟨⟨x0, x1, x2, x3⟩, hzk⟩ : ∃ z, zs[k]? = some z := ⟨zs[k]'(by have := HL.out; omega), List.getElem?_eq_getElem (by have := HL.out; omega)⟩
      obtain ⟨b, off, rfl, hb, a0, a1, a2, a3⟩ := row_at_4 (HA.out.below HB.out) hzk rfl
      have HZ := hide hzk
      clear hzk
      by_cases hm : m < x3
      · have hlen := wornK_len zs m k
        go_wp2_with (at_builtin; refine wpList_append_own _ rfl _ _ 29 rfl w.heap.size 2 i0 (.int .i64 0) 1 8 Try.underlying29 HI.out HZ0.out HZ1.out HZ2.out rfl (by decide) _ _ _ rfl (HO.out.alloc _) ⟨wr.heap.size, 0, none⟩ 1 1 [.int .i64 k] rfl rfl (cell_one_new _ _ _) (fun x hx => by simp at hx; subst hx; rfl) (by unfold maxLen; omega) (by omega) (by have := HB.out.size; simp; omega) ?_; intro v' w1 hown' hgrow hnil)
        have HO' := hide (own_push hown' (wornK_yes HZ.out hm))
        have HB' := hide (below_push HB.out HO.out hgrow)
        clear hown' hgrow hnil
        go_roundw
        case rel => exact ⟨k + 1, by omega, by go_num, HO', HB'⟩
        case measure => simp [intOf]; omega
      · have HK := hide (wornK_no HZ.out hm)
        go_wp2
        go_roundw
        case rel => exact ⟨k + 1, by omega, by go_num, hide (by rw [HK.out]; exact HO.out), HB⟩
        case measure => simp [intOf]; omega
    · obtain rfl : k = n := by omega
      obtain ⟨A', c', rfl, ho⟩ := Own.of_row rfl HO.out HB.out.size
      have HO' := hide ho
      clear ho
      go_wp2
      go_ret2
      exact ⟨A', c', rfl, HO'.out, HB.out⟩
end Go.Proofs.Ytgobpleckeeheaa
