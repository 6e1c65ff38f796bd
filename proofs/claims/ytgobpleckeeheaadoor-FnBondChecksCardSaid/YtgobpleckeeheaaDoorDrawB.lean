/-
  What is proved: texts that the reference draws for bonds: each byte is a letter of those handed in. Conditions: as for the source.
-/
import Derived.Test.YtgobpleckeeheaaDoorSrc2
import Derived.Test.YtgobpleckeeheaaDoorReadS
import Derived.Test.YtgobpleckeeheaaDoorLibP
import Derived.Laws.BytesArg
namespace Go.Proofs.YtgobpleckeeheaaDoor
open Go.RowKit Go.PlainAid
set_option linter.unusedVariables false

theorem Src.grown {w0 w w' : World} {b : Nat} {A : Option Addr} {n c k : Nat} {row : Option Nat} (h : Src w0 w b A n c k) (hg : w.grownBy w' row) (hne : some b ≠ row) (hr : ∀ j, row = some j → w0.heap.size ≤ j) : Src w0 w' b A n c k := by
  have hl := h.lt
  obtain ⟨h1, h2, seed, h3⟩ := h
  exact ⟨h1, h2.grown hg h2.size hr, seed, (hg.block b hl hne).trans h3⟩
theorem Only.grown {b : Nat} {u v w' : World} {row : Option Nat} (h : Only b u v) (hg : v.grownBy w' row) (hr : ∀ j, row = some j → u.heap.size ≤ j) : Only b u w' :=
  ⟨hg.os.trans h.os, hg.tape.trans h.tape, hg.output.trans h.output, Nat.le_trans h.size hg.size, fun i hi hn => (hg.block i (Nat.lt_of_lt_of_le hi h.size) (fun e => by have := hr i e.symm; omega)).trans (h.block i hi hn)⟩
theorem own_only {w w' : World} {base size n b : Nat} {t : TypeId} {v : Value} {xs : List Value} (h : w.ownsRow base t size v n xs) (ho : Only b w w') (hb : b < base) : w'.ownsRow base t size v n xs :=
  h.kept (row := some b) ⟨ho.os, ho.tape, ho.output, ho.size, fun k hk hne => ho.block k hk (fun e => hne (by rw [e]))⟩ (by
    cases hv : v.ownBlock with
    | none => exact .inl rfl
    | some j => exact .inr (fun e => by have := (h.lt j hv).1; injection e with e; omega))
theorem only_nums {f : Int → Bool} {xs : List Int} (h : ∀ x ∈ xs, f x = true ∧ 0 ≤ x ∧ x ≤ 255) : onlyB f (strOfNums xs) = true := decide_eq_true (fun i hi => by
  rw [strOfNums_size] at hi
  rw [bt_list (by rw [strOfNums_size]; exact hi)]
  simp only [strOfNums_data, List.getElem_map]
  obtain ⟨h1, h2, h3⟩ := h _ (List.getElem_mem hi)
  rw [show ((UInt8.ofNat (xs[i].toNat)).toNat : Int) = xs[i] from by
    rw [UInt8.toNat_ofNat']
    omega]
  exact h1)
theorem conv_own {w : World} {base n : Nat} {v : Value} {xs : List Int} (hl : xs.length = n) (h : w.ownsRow base 5 1 v n (xs.map (Value.int .u8))) : (convert 22 9 v).run Tryd.prog w = .ok (.string (strOfNums xs)) w := by
  rcases h.2 with ⟨rfl, h0⟩ | ⟨g, cap, cur, rfl, hb, hg, hnc, hcm, hsz, htk⟩
  · have hx : xs = [] := List.eq_nil_of_length_eq_zero (by omega)
    subst hx
    exact run_convert_bytes_nil (P := Tryd.prog) (w := w) 22 5 Tryd.underlying22 Tryd.underlying5 0 0 9 Tryd.underlying9
  · refine run_convert_bytes_arg (P := Tryd.prog) w 22 5 Tryd.underlying22 Tryd.underlying5 g 0 n cap xs hl (fun i hi => ?_) 9 Tryd.underlying9
    have e : cur.toList[i]? = some (.int .u8 (xs.getD i 0)) := by
      have h1 : (cur.toList.take (n * 1))[i]? = (xs.map (Value.int .u8))[i]? := by rw [htk]
      rw [List.getElem?_take, if_pos (by omega), List.getElem?_map] at h1
      rw [h1, List.getElem?_eq_getElem (by omega)]
      simp [List.getD, List.getElem?_eq_getElem (show i < xs.length from by omega)]
    rw [Nat.zero_add]
    simp only [World.cell?, hg]
    rw [Array.getElem?_toList] at e
    exact e
theorem info_U8 : (Tryd.prog.info? 5).map (fun i => (i.zero, i.size, i.bytes)) = some (some (.int .u8 0), 1, 1) := by kernel_rfl
/-- Which byte stands where in a short text. -/
def Letters (L : ByteArray) (f : Int → Bool) (m : Int) : Prop := (L.size : Int) = m ∧ ∀ v : Int, 0 ≤ v → v < m → ∃ x : Int, f x = true ∧ 0 ≤ x ∧ x ≤ 255 ∧ ∀ W, (Instr.index 9 (.string L) (.int .i64 v)).run Tryd.prog W = .ok (.int .u8 x) W
theorem letters_all : Letters ⟨#[83, 72, 84, 66, 67]⟩ pcC 5 := ⟨rfl, fun v h0 h1 => by
  rcases (show v = 0 ∨ v = 1 ∨ v = 2 ∨ v = 3 ∨ v = 4 from by omega) with rfl | rfl | rfl | rfl | rfl
  · exact ⟨83, by decide, by decide, by decide, fun W => by kernel_rfl⟩
  · exact ⟨72, by decide, by decide, by decide, fun W => by kernel_rfl⟩
  · exact ⟨84, by decide, by decide, by decide, fun W => by kernel_rfl⟩
  · exact ⟨66, by decide, by decide, by decide, fun W => by kernel_rfl⟩
  · exact ⟨67, by decide, by decide, by decide, fun W => by kernel_rfl⟩⟩
theorem letters_whole : Letters ⟨#[83, 72]⟩ plC 2 := ⟨rfl, fun v h0 h1 => by
  rcases (show v = 0 ∨ v = 1 from by omega) with rfl | rfl
  · exact ⟨83, by decide, by decide, by decide, fun W => by kernel_rfl⟩
  · exact ⟨72, by decide, by decide, by decide, fun W => by kernel_rfl⟩⟩
/-- What a drawn text leaves. -/
def SomePost (f : Int → Bool) (m : Nat) (w0 w : World) (b : Nat) (A : Option Addr) (n c k : Nat) (e : Ending) (w' : World) : Prop :=
  ∃ (s : ByteArray) (k' : Nat), s.size = m ∧ onlyB f s = true ∧ e = .returned (.string s) ∧ k' ≤ k + 2 * m ∧ Src w0 w' b A n c k' ∧ Only b w w'
set_option maxRecDepth 100000 in
set_option maxHeartbeats 2000000 in
theorem src_some (L : ByteArray) (f : Int → Bool) (p : Int) (hL : Letters L f p) (hp : 1 ≤ p) (hp2 : p ≤ 100) (w0 w : World) (b : Nat) (A : Option Addr) (n c k : Nat) (z : List Int) (m : Nat) (hm : m ≤ 100) (hk : k < 1099511620000) (ha : ArgInts .u8 w0 A n c z) (hs : Src w0 w b A n c k) :
    Calls Tryd.prog 27 #[.pointer (some ⟨b, 0, none⟩), .string L, .int .i64 m] w (SomePost f m w0 w b A n c k) := by
  obtain ⟨i0, hi, hz0, hz1, hz2⟩ := info_parts info_U8
  have HI := hide hi
  have HZ0 := hide hz0
  have HZ1 := hide hz1
  have HZ2 := hide hz2
  have HA := hide ha
  have hbl := hs.lt
  have hbs : w0.heap.size ≤ w.heap.size := hs.2.1.size
  have HS := hide (hs.alloc (.cells #[] 5))
  have HLL := hide hL
  have hLs := hL.1
  clear hi hz0 hz1 hz2 ha hs hL
  go_enter Tryd.func27, Tryd.ntmps27
  go_wp2
  go_loopw [7, 8] (fun u7 i wr => ∃ j k' : Nat, j ≤ m ∧ i = .int .i64 j ∧ k' ≤ k + 2 * j ∧ Hid (∃ xs : List Int, xs.length = j ∧ (∀ x ∈ xs, f x = true ∧ 0 ≤ x ∧ x ≤ 255) ∧ wr.ownsRow w.heap.size 5 1 u7 j (xs.map (Value.int .u8))) ∧ Hid (Src w0 wr b A n c k') ∧ Hid (Only b w wr)) (fun _ i _ => m - (intOf i).toNat)
  case atStart => exact ⟨0, k, by omega, rfl, by omega, hide ⟨[], rfl, fun x hx => by simp at hx, own_empty w _ _ _ (Nat.le_refl _)⟩, HS, hide ((Only.refl b w).alloc _)⟩
  case round =>
    obtain ⟨j, k', hj, rfl, hk', HX, HS2, HO⟩ := hrel
    have hzr := HO.out.size
    by_cases hlt : j < m
    · obtain ⟨xs, hxl, hxf, hown⟩ := HX.out
      have HF := hide hxf
      have HW := hide hown
      clear hxf hown
      have hji : (j : Int) < (m : Int) := by omega
      go_wp2_with fail
      refine (src_pick w0 _ b A n c k' z p hp (by omega) (by omega) HA.out HS2.out).mono ?_
      rintro e w2 ⟨v, k2, hv0, hv1, rfl, hk2, hs2, ho2⟩
      obtain ⟨x, hx1, hx2, hx3, hidx⟩ := HLL.out.2 v hv0 hv1
      have HW2 := hide (own_only HW.out ho2 hbl)
      have HS3 := hide hs2
      have HO2 := hide (HO.out.trans ho2)
      have hz2 : w.heap.size ≤ w2.heap.size := HO2.out.size
      have HP := hide (show f x = true ∧ 0 ≤ x ∧ x ≤ 255 from ⟨hx1, hx2, hx3⟩)
      clear hs2 ho2 hx1 hx2 hx3
      go_wp2_with (at_builtin; go_loud (refine wpList_append_own _ rfl _ _ 22 rfl w.heap.size 5 i0 (.int .u8 0) 1 1 Tryd.underlying22 HI.out HZ0.out HZ1.out HZ2.out rfl (by decide) _ _ _ rfl (HW2.out.alloc _) ⟨w2.heap.size, 0, none⟩ 1 1 [.int .u8 x] rfl rfl (cell_one_new _ _ _) (fun x hx => by simp at hx; subst hx; rfl) (by unfold maxLen; omega) (by omega) (by simp; omega) ?_; intro v' w3 hown' hgrow hnil))
      have hown2 := hown'
      rw [show List.map (Value.int .u8) xs ++ [Value.int .u8 x] = (xs ++ [x]).map (Value.int .u8) from by simp] at hown2
      have HN := hide hown2
      have HSN := hide ((HS3.out.alloc _).grown hgrow (fun q => by have := (HW2.out.lt b q.symm).1; omega) (fun q hq => by have := (HW2.out.lt q hq).1; omega))
      have HON := hide ((HO2.out.alloc _).grown hgrow (fun q hq => (HW2.out.lt q hq).1))
      clear hown' hown2 hgrow hnil hidx
      go_wp2
      go_roundw
      case rel => exact ⟨j + 1, k2, by omega, by go_num, by omega, hide ⟨xs ++ [x], by simp [hxl], fun y hy => by
        rcases List.mem_append.1 hy with h | h
        · exact HF.out y h
        · rw [List.mem_singleton.1 h]
          exact HP.out, HN.out⟩, HSN, HON⟩
      case measure => simp [intOf]; omega
    · obtain rfl : j = m := by omega
      obtain ⟨xs, hxl, hxf, hown⟩ := HX.out
      have hconv := conv_own hxl hown
      have HF := hide hxf
      clear hxf hown
      go_wp2
      go_ret
      exact ⟨_, k', by rw [strOfNums_size, hxl], only_nums HF.out, rfl, hk', HS2.out, HO.out⟩
end Go.Proofs.YtgobpleckeeheaaDoor
