/-
  What is proved: a bond read off a text by the program. Condition: a length that fits, the library's own variable holds some number.
-/
import Derived.Test.YtgobpleckeeheaaDoorUnder
import Derived.Test.YtgobpleckeeheaaDoorLibN
namespace Go.Proofs.YtgobpleckeeheaaDoor
open Go.RowKit Go.PlainAid
set_option linter.unusedVariables false

theorem splitK_min {c : UInt8} (l : List UInt8) (n : Nat) : Lib.splitK [c] 0 (min (n + 1) (l.length + 1) - 1) l = Lib.splitK [c] 0 n l := by
  have h := spl_count c l
  rcases Nat.le_total n l.length with h1 | h1
  · rw [show min (n + 1) (l.length + 1) - 1 = n by omega]
  · rw [show min (n + 1) (l.length + 1) - 1 = l.length by omega, splitK_all (by omega), splitK_all (by omega)]
theorem row_cellsS (w : World) (cs : Array Value) (xs : List ByteArray) (t : TypeId) (h : ∀ (i : Nat) (x : ByteArray), xs[i]? = some x → cs[i]? = some (.string x)) : Row encS 1 (w.alloc (.cells cs t)) (some ⟨w.heap.size, 0, none⟩) xs := fun _ => by
  refine ⟨w.heap.size, 0, rfl, by simp, fun i x hi j v hv => ?_⟩
  match j, hv with
  | 0, hv =>
    obtain rfl := Option.some.inj hv
    have := h i x hi
    simp [World.cell?_alloc_new, this]
theorem splitN_is (s : ByteArray) (n : Nat) (w : World) (hs : s.size ≤ 16777216) (hm : MaxLenIs w) (hn : n ≤ 1000) :
    Calls Tryd.prog 18 #[.string s, .string ⟨#[32]⟩, .int .i64 ((n + 1 : Nat) : Int)] w fun e w' => ∃ g c, e = .returned (.slice (some ⟨g, 0, none⟩) (Lib.splitK [32] 0 n s.data.toList).length c) ∧ (Lib.splitK [32] 0 n s.data.toList).length ≤ c ∧ Row encS 1 w' (some ⟨g, 0, none⟩) ((Lib.splitK [32] 0 n s.data.toList).map ba) ∧ Below w.heap.size w w' := by
  obtain ⟨m, hm⟩ := hm
  refine (Tryd.strings_SplitN s ⟨#[32]⟩ (n + 1) m w (by omega) hm (by decide) (by omega) (by omega)).mono fun e w' ⟨he, hw⟩ => ?_
  have e1 : Lib.splitB ⟨#[32]⟩ 0 (min (n + 1) (s.size + 1) - 1) s = (Lib.splitK [32] 0 n s.data.toList).map ba := by
    apply map_ba
    rw [Lib.splitB_data, ← splitK_min s.data.toList n, data_size]
  rw [e1] at he hw
  have hl : (Lib.splitK [32] 0 n s.data.toList).length ≤ min (n + 1) (s.size + 1) := by
    have h2 := splitK_le (c := 32) (k := min (n + 1) (s.size + 1) - 1) (l := s.data.toList)
    have h3 := splitK_min (c := 32) s.data.toList n
    rw [data_size] at h3
    rw [h3] at h2
    omega
  refine ⟨w.heap.size, min (n + 1) (s.size + 1), by rw [he, List.length_map], hl, ?_, ?_⟩
  · rw [hw]
    refine row_cellsS w _ _ _ fun i x hx => ?_
    unfold Lib.cellsOf
    have hi := (List.getElem?_eq_some_iff.1 hx).1
    rw [List.getElem?_toArray, List.getElem?_append_left (by simpa using hi), List.getElem?_map, hx]
    rfl
  · rw [hw]
    exact (Below.refl _ _).alloc (Nat.le_refl _) _
set_option maxRecDepth 100000 in
set_option maxHeartbeats 1000000 in
theorem impl_courseOf (s : ByteArray) (w : World) (hs : s.size ≤ 16777216) (hm : MaxLenIs w) :
    Calls Tryd.prog 19 #[.string s] w fun e w' => e = .returned (.agg #[.string (courseOfL s.data.toList).lead, .string (courseOfL s.data.toList).cycle]) ∧ Below w.heap.size w w' := by
  have hMz : 0 < w.heap.size := by obtain ⟨m, hm⟩ := hm; exact cell_lt hm
  have HM := hide hm
  have HB0 := hide ((Below.refl w.heap.size w).alloc (Nat.le_refl _) (.cells #[.string ⟨#[]⟩, .string ⟨#[]⟩] 33))
  obtain ⟨a, b, p, hr⟩ : ∃ a b p, Lib.cut s.data.toList [43] = (a, b, p) := ⟨_, _, _, rfl⟩
  have HR := hide hr
  clear hm
  cases p with
  | false =>
    have e : courseOfL s.data.toList = ⟨⟨#[]⟩, s⟩ := by
      unfold courseOfL
      rw [hr, if_neg (by simp), ba_of]
    rw [e]
    clear hr e
    go_enter Tryd.func19, Tryd.ntmps19
    go_wp2_with fail
    refine (cut_is s ⟨#[43]⟩ _ _ HR.out (by omega) (HM.out.below hMz HB0.out)).mono ?_
    rintro e w1 ⟨rfl, hb1⟩
    have HB1 := hide (HB0.out.trans (hb1.mono (by simp)))
    have p0 := (hb1.cell (p := ⟨w.heap.size, 0, none⟩) (by simp)).trans (show _ = some (.string ⟨#[]⟩) from by simp [go_sem])
    have p1 := (hb1.cell (p := ⟨w.heap.size, 1, none⟩) (by simp)).trans (show _ = some (.string ⟨#[]⟩) from by simp [go_sem])
    have o0 := ((bcell hb1).2 w.heap.size 0 (by simp)).trans (show _ = false from by simp [go_sem])
    have o1 := ((bcell hb1).2 w.heap.size 1 (by simp)).trans (show _ = false from by simp [go_sem])
    have hz : w.heap.size < w1.heap.size := by have := hb1.size; simp at this; omega
    clear hb1
    go_wp2
    refine bodyPost_ret (v := .agg #[.string ⟨#[]⟩, .string s]) ?_ rfl ⟨rfl, ?_⟩
    · simp [results, Tryd.results19, go_sem, p0, p1]
    · have BX := HB1.out
      go_grown
  | true =>
    have e : courseOfL s.data.toList = ⟨ba a, ba b⟩ := by
      unfold courseOfL
      rw [hr, if_pos rfl]
    rw [e]
    clear hr e
    go_enter Tryd.func19, Tryd.ntmps19
    go_wp2_with fail
    refine (cut_is s ⟨#[43]⟩ _ _ HR.out (by omega) (HM.out.below hMz HB0.out)).mono ?_
    rintro e w1 ⟨rfl, hb1⟩
    have HB1 := hide (HB0.out.trans (hb1.mono (by simp)))
    have p0 := (hb1.cell (p := ⟨w.heap.size, 0, none⟩) (by simp)).trans (show _ = some (.string ⟨#[]⟩) from by simp [go_sem])
    have p1 := (hb1.cell (p := ⟨w.heap.size, 1, none⟩) (by simp)).trans (show _ = some (.string ⟨#[]⟩) from by simp [go_sem])
    have o0 := ((bcell hb1).2 w.heap.size 0 (by simp)).trans (show _ = false from by simp [go_sem])
    have o1 := ((bcell hb1).2 w.heap.size 1 (by simp)).trans (show _ = false from by simp [go_sem])
    have hz : w.heap.size < w1.heap.size := by have := hb1.size; simp at this; omega
    clear hb1
    go_wp2
    refine bodyPost_ret (v := .agg #[.string (ba a), .string (ba b)]) ?_ rfl ⟨rfl, ?_⟩
    · simp [results, Tryd.results19, go_sem, p0, p1]
    · have BX := HB1.out
      go_grown
end Go.Proofs.YtgobpleckeeheaaDoor
