/-
  What is proved: a format and a mould as texts, of the program and of the reference. Conditions: numbers of 64 bits; the library's own table holds what its initialiser lays.
-/
import Derived.Test.YtfjdhjbfingofaaGreatDoorNums
import Derived.Test.YtfjdhjbfingofaaGreatDoorJoinD
import Derived.Test.YtfjdhjbfingofaaGreatDoorMouldOk
import Derived.Deep.RegionHeld3
namespace Go.Proofs.YtfjdhjbfingofaaGreatDoor
open Go.RowKit Go.PlainAid
set_option linter.unusedVariables false

def fmtT (l w h j : Int) : ByteArray := if fmtB l w h j = true then ba (fText l w h j) else ⟨#[]⟩
def mldT (l w h u : Int) : ByteArray := if mldB l w h u = true then ba (mText l w h u) else ⟨#[]⟩
theorem fmtT_yes {l w h j : Int} (e : fmtB l w h j = true) : fmtT l w h j = ba (fText l w h j) := if_pos e
theorem fmtT_no {l w h j : Int} (e : fmtB l w h j = false) : fmtT l w h j = ⟨#[]⟩ := if_neg (by rw [e]; simp)
theorem mldT_yes {l w h j : Int} (e : mldB l w h j = true) : mldT l w h j = ba (mText l w h j) := if_pos e
theorem mldT_no {l w h j : Int} (e : mldB l w h j = false) : mldT l w h j = ⟨#[]⟩ := if_neg (by rw [e]; simp)
theorem mldB_ok (l w h u : Int) : Mould.ok ⟨l, w, h, u⟩ = mldB l w h u := rfl
theorem ba_app (a b : List UInt8) : ba a ++ ba b = ba (a ++ b) := by
  apply ByteArray.ext
  simp [ba, ByteArray.data_append]
theorem fmt_bd {l w h j : Int} (e : fmtB l w h j = true) : I64 l ∧ I64 w ∧ I64 h ∧ I64 j := by
  have := fmt_small e
  unfold Small at this
  unfold I64
  omega
theorem mld_bd {l w h j : Int} (e : mldB l w h j = true) : I64 l ∧ I64 w ∧ I64 h ∧ I64 j := by
  have := mld_small e
  unfold Small at this
  unfold I64
  omega
theorem row_new3 (w : World) (x y z : Int) (t : TypeId) (g : Nat) (hg : w.heap.size = g) : Row encI 1 (w.alloc (.cells #[.int .i64 x, .int .i64 y, .int .i64 z] t)) (some ⟨g, 0, none⟩) [x, y, z] := fun _ => by
  subst hg
  refine ⟨w.heap.size, 0, rfl, by simp, fun i v hi j u hu => ?_⟩
  match j, hu with
  | 0, hu =>
    obtain rfl := Option.some.inj hu
    match i, hi with
    | 0, hi => obtain rfl := Option.some.inj hi; simp [World.cell?_alloc_new]
    | 1, hi => obtain rfl := Option.some.inj hi; simp [World.cell?_alloc_new]
    | 2, hi => obtain rfl := Option.some.inj hi; simp [World.cell?_alloc_new]
theorem fText_ba (l w h j : Int) : ba (sizesT l w h) ++ ⟨#[43]⟩ ++ decB j = ba (fText l w h j) := by
  have e : (⟨#[43]⟩ : ByteArray) = ba [43] := rfl
  unfold decB fText
  rw [e, ba_app, ba_app]
  simp
theorem mText_ba (l w h j : Int) : ba (sizesT l w h) ++ ⟨#[32, 117, 115, 101, 100, 32]⟩ ++ decB j = ba (mText l w h j) := by
  have e : (⟨#[32, 117, 115, 101, 100, 32]⟩ : ByteArray) = ba usedL := rfl
  unfold decB mText
  rw [e, ba_app, ba_app]
  simp
theorem fText_decs (l w h j : Int) : decB l ++ ⟨#[120]⟩ ++ decB w ++ ⟨#[120]⟩ ++ decB h ++ ⟨#[43]⟩ ++ decB j = ba (fText l w h j) := by
  have e : (⟨#[43]⟩ : ByteArray) = ba [43] := rfl
  have e2 : (⟨#[120]⟩ : ByteArray) = ba [120] := rfl
  unfold decB fText sizesT
  rw [e, e2]
  simp only [ba_app]
  simp
theorem mText_decs (l w h j : Int) : decB l ++ ⟨#[120]⟩ ++ decB w ++ ⟨#[120]⟩ ++ decB h ++ ⟨#[32, 117, 115, 101, 100, 32]⟩ ++ decB j = ba (mText l w h j) := by
  have e : (⟨#[32, 117, 115, 101, 100, 32]⟩ : ByteArray) = ba usedL := rfl
  have e2 : (⟨#[120]⟩ : ByteArray) = ba [120] := rfl
  unfold decB mText sizesT
  rw [e, e2]
  simp only [ba_app]
  simp
end Go.Proofs.YtfjdhjbfingofaaGreatDoor
