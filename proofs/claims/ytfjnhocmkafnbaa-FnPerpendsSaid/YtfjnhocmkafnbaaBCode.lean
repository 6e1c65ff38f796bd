/-
  What is proved: a course of a bond by its number, and the code of a bond, of courses and of a length, of the program and of the reference. Condition: lengths that fit.
-/
import Derived.Test.YtfjnhocmkafnbaaPerp
import Derived.Test.YtfjnhocmkafnbaaOutside
namespace Go.Proofs.Ytfjnhocmkafnbaa
open Go.RowKit Go.PlainAid
set_option linter.unusedVariables false

def bcode (s : ByteArray) (zs : List Course) (ks : List Int) (u : Int) : Int := if bondOk s zs = true then (if ks.all (inP 0 1000) = true ∧ 1 ≤ u ∧ u ≤ 200 then 0 else 2) else 1
theorem bond_len {s : ByteArray} {zs : List Course} (h : bondOk s zs = true) : 1 ≤ zs.length ∧ zs.length ≤ 8 := by
  unfold bondOk at h
  rw [Bool.and_eq_true, Bool.and_eq_true, decide_eq_true_iff] at h
  exact h.2.1
theorem bond_course {s : ByteArray} {zs : List Course} {i : Nat} {z : Course} (h : bondOk s zs = true) (hz : zs[i]? = some z) : z.ok = true := by
  unfold bondOk at h
  rw [Bool.and_eq_true, Bool.and_eq_true, List.all_eq_true] at h
  exact h.2.2 z (List.mem_of_getElem? hz)
theorem course_get {zs : List Course} (k : Nat) (h : 1 ≤ zs.length) : ∃ x y, zs[k % zs.length]? = some ⟨x, y⟩ := by
  have hm : k % zs.length < zs.length := Nat.mod_lt _ h
  cases hz : zs[k % zs.length]? with
  | none => rw [List.getElem?_eq_none_iff] at hz; omega
  | some z => exact ⟨z.lead, z.cycle, rfl⟩
set_option maxRecDepth 100000 in
set_option maxHeartbeats 1000000 in
theorem impl_course (s : ByteArray) (A : Option Addr) (n c : Nat) (zs : List Course) (k : Nat) (x y : ByteArray) (w : World) (hk : k ≤ 2000) (hn : n ≤ 16777216) (hl : zs.length = n) (h : Row Course.enc 2 w A zs) (hz : zs[k % n]? = some ⟨x, y⟩) :
    Calls Try.prog 100 #[.agg #[.string s, .slice A n c], .int .i64 k] w fun e w' => e = .returned (.agg #[.string x, .string y]) ∧ Below w.heap.size w w' := by
  have hm : k % n < n := by rw [← hl]; exact (List.getElem?_eq_some_iff.1 (by rw [hl]; exact hz)).1
  have hn0 : ¬ (n = 0) := by omega
  have htm : ((k : Int)).tmod (n : Int) = (k : Int) % (n : Int) := rfl
  have ht : ((k : Int) % (n : Int)).toNat = k % n := rfl
  have h1 : 0 ≤ (k : Int) % (n : Int) := Int.natCast_nonneg (k % n)
  have h2 : (k : Int) % (n : Int) < (n : Int) := Int.ofNat_lt.2 hm
  obtain ⟨b, off, rfl, hb, a0, a1⟩ := row_at_2 h hz rfl
  clear hz h hl
  have HB0 := hide (((Below.refl w.heap.size w).alloc (Nat.le_refl _) (.cells #[.string s, .slice (some ⟨b, off, none⟩) n c] 62)).alloc (by simp) (.cells #[.string ⟨#[]⟩, .string ⟨#[]⟩] 129))
  go_enter Try.func100, Try.ntmps100
  go_wp2
  have c1 : ((w.alloc (.cells #[.string s, .slice (some ⟨b, off, none⟩) n c] 62)).alloc (.cells #[.string ⟨#[]⟩, .string ⟨#[]⟩] 129)).cell? ⟨w.heap.size, 1, none⟩ = some (.slice (some ⟨b, off, none⟩) n c) := by simp [go_sem]
  have p0 : ((w.alloc (.cells #[.string s, .slice (some ⟨b, off, none⟩) n c] 62)).alloc (.cells #[.string ⟨#[]⟩, .string ⟨#[]⟩] 129)).cell? ⟨w.heap.size + 1, 0, none⟩ = some (.string ⟨#[]⟩) := by simp [go_sem]
  have p1 : ((w.alloc (.cells #[.string s, .slice (some ⟨b, off, none⟩) n c] 62)).alloc (.cells #[.string ⟨#[]⟩, .string ⟨#[]⟩] 129)).cell? ⟨w.heap.size + 1, 1, none⟩ = some (.string ⟨#[]⟩) := by simp [go_sem]
  have o0 : ((w.alloc (.cells #[.string s, .slice (some ⟨b, off, none⟩) n c] 62)).alloc (.cells #[.string ⟨#[]⟩, .string ⟨#[]⟩] 129)).frozen? ⟨w.heap.size + 1, 0, none⟩ = false := by simp [go_sem]
  have o1 : ((w.alloc (.cells #[.string s, .slice (some ⟨b, off, none⟩) n c] 62)).alloc (.cells #[.string ⟨#[]⟩, .string ⟨#[]⟩] 129)).frozen? ⟨w.heap.size + 1, 1, none⟩ = false := by simp [go_sem]
  have hzz : w.heap.size + 1 < ((w.alloc (.cells #[.string s, .slice (some ⟨b, off, none⟩) n c] 62)).alloc (.cells #[.string ⟨#[]⟩, .string ⟨#[]⟩] 129)).heap.size := by simp [go_sem]
  have e0 := (HB0.out.cell (p := ⟨b, off + k % n * 2, none⟩) hb).trans a0
  have e1 := (HB0.out.cell (p := ⟨b, off + k % n * 2 + 1, none⟩) hb).trans a1
  clear a0 a1
  generalize ((w.alloc (.cells #[.string s, .slice (some ⟨b, off, none⟩) n c] 62)).alloc (.cells #[.string ⟨#[]⟩, .string ⟨#[]⟩] 129)) = W at *
  go_still_tail 9, (by kernel_rfl)
  change wpList _ _ _ _ _ W.drew
  go_wp2
  refine bodyPost_ret (v := .agg #[.string x, .string y]) ?_ rfl ⟨rfl, ?_⟩
  · simp [results, Try.results100, go_sem, p0, p1]
  · have BX := HB0.out
    go_grown
set_option maxRecDepth 100000 in
set_option maxHeartbeats 1000000 in
theorem spec_l04At (g : Nat) (A : Option Addr) (n c : Nat) (zs : List Course) (k : Nat) (x y : ByteArray) (w : World) (hk : k ≤ 2000) (hn : n ≤ 16777216) (hl : zs.length = n) (h : Row Course.enc 2 w A zs) (hz : zs[k % n]? = some ⟨x, y⟩) (hg : g < w.heap.size) (hc1 : w.cell? ⟨g, 1, none⟩ = some (.slice A n c)) :
    Calls Try.prog 106 #[.pointer (some ⟨g, 0, none⟩), .int .i64 k] w fun e w' => e = .returned (.agg #[.string x, .string y]) ∧ Below w.heap.size w w' := by
  have hm : k % n < n := by rw [← hl]; exact (List.getElem?_eq_some_iff.1 (by rw [hl]; exact hz)).1
  have hn0 : ¬ (n = 0) := by omega
  have htm : ((k : Int)).tmod (n : Int) = (k : Int) % (n : Int) := rfl
  have ht : ((k : Int) % (n : Int)).toNat = k % n := rfl
  have h1 : 0 ≤ (k : Int) % (n : Int) := Int.natCast_nonneg (k % n)
  have h2 : (k : Int) % (n : Int) < (n : Int) := Int.ofNat_lt.2 hm
  obtain ⟨b, off, rfl, hb, a0, a1⟩ := row_at_2 h hz rfl
  clear hz h hl
  have HB0 := hide ((Below.refl w.heap.size w).alloc (Nat.le_refl _) (.cells #[.string ⟨#[]⟩, .string ⟨#[]⟩] 129))
  go_enter Try.func106, Try.ntmps106
  go_wp2
  have p0 : (w.alloc (.cells #[.string ⟨#[]⟩, .string ⟨#[]⟩] 129)).cell? ⟨w.heap.size, 0, none⟩ = some (.string ⟨#[]⟩) := by simp [go_sem]
  have p1 : (w.alloc (.cells #[.string ⟨#[]⟩, .string ⟨#[]⟩] 129)).cell? ⟨w.heap.size, 1, none⟩ = some (.string ⟨#[]⟩) := by simp [go_sem]
  have o0 : (w.alloc (.cells #[.string ⟨#[]⟩, .string ⟨#[]⟩] 129)).frozen? ⟨w.heap.size, 0, none⟩ = false := by simp [go_sem]
  have o1 : (w.alloc (.cells #[.string ⟨#[]⟩, .string ⟨#[]⟩] 129)).frozen? ⟨w.heap.size, 1, none⟩ = false := by simp [go_sem]
  have hzz : w.heap.size < (w.alloc (.cells #[.string ⟨#[]⟩, .string ⟨#[]⟩] 129)).heap.size := by simp [go_sem]
  have e0 := (HB0.out.cell (p := ⟨b, off + k % n * 2, none⟩) hb).trans a0
  have e1 := (HB0.out.cell (p := ⟨b, off + k % n * 2 + 1, none⟩) hb).trans a1
  have c1 := (HB0.out.cell (p := ⟨g, 1, none⟩) hg).trans hc1
  clear a0 a1
  generalize (w.alloc (.cells #[.string ⟨#[]⟩, .string ⟨#[]⟩] 129)) = W at *
  go_still_tail 13, (by kernel_rfl)
  change wpList _ _ _ _ _ W.drew
  go_wp2
  refine bodyPost_ret (v := .agg #[.string x, .string y]) ?_ rfl ⟨rfl, ?_⟩
  · simp [results, Try.results106, go_sem, p0, p1]
  · have BX := HB0.out
    go_grown
end Go.Proofs.Ytfjnhocmkafnbaa
