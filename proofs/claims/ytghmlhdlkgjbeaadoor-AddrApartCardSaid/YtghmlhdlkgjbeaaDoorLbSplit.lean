/- strings.Split, strings.ReplaceAll: the shelf's contracts. -/
import Derived.Test.YtghmlhdlkgjbeaaDoorLbCut
import Derived.Lib.Replace
set_option linter.unusedVariables false
set_option linter.unusedSimpArgs false
namespace Go.Proofs.YtghmlhdlkgjbeaaDoorAv
open Go Go.RowKit
theorem VS_strs {L : GH} {w w' : World} {l : List ByteArray} {n : Nat} (hfr : L w.heap.size = none) (hn : n = l.length) {T : TypeId} (hw : w' = w.alloc (.cells (l.map Value.string).toArray T)) :
    VS L w' (toAV (strsL l)) (.slice (some ⟨w.heap.size, 0, none⟩) n n) := by
  rw [hw, hn]; exact VS_newStrs hfr
theorem below_alloc (w : World) (o : Obj) : Below w.heap.size w (w.alloc o) := (Below.refl _ w).alloc (Nat.le_refl _) o
/-- A text's pieces. -/
def splitS (s sep : ByteArray) : List ByteArray := (Lib.split s.data.toList sep.data.toList).map mk8
theorem splitB_eq (s sep : ByteArray) (h1 : 1 ≤ sep.size) : Lib.splitB sep 0 (Lib.countB s sep) s = splitS s sep := by
  have h := Lib.splitB_data sep 0 (Lib.countB s sep) s
  have e : ∀ l : List ByteArray, l = (l.map (·.data.toList)).map mk8 := by
    intro l
    rw [List.map_map]
    conv => lhs; rw [← List.map_id l]
    apply List.map_congr_left
    intro a _
    simp [mk8, Function.comp]
  rw [e (Lib.splitB sep 0 (Lib.countB s sep) s), h]
  unfold splitS Lib.split
  congr 2
theorem splitB_len (s sep : ByteArray) (h1 : 1 ≤ sep.size) : Lib.countB s sep + 1 = (splitS s sep).length := by
  rw [← splitB_eq s sep h1]
  exact (Lib.splitB_all sep h1 0 _ s rfl).symm
def splitC : CT := C2 dStr dStr (fun s sep => [s.size < 4294967281, 1 ≤ sep.size]) fun s sep => strsL (splitS s sep)
theorem split_ok : CTok Tryd.prog 27 splitC := by
  refine ct_str2 Tryd.func27 rfl (by decide) (fun a b => by simp [strsL, XV.pd]) fun s sep hc L w hg hfr => ?_
  obtain ⟨m, hm⟩ := maxLen_glb hg
  have h1 : 1 ≤ sep.size := hc _ (by simp)
  refine (Tryd.strings_Split s sep m w (hc _ (by simp)) hm h1).mono fun e w' ⟨he, hw⟩ => ⟨_, he, ?_, by rw [hw]; exact below_alloc w _⟩
  rw [splitB_eq s sep h1] at hw
  exact VS_strs (hfr _ (Nat.le_refl _)) (splitB_len s sep h1) hw
def replB (s old new : ByteArray) : ByteArray := mk8 (Lib.replaceAll s.data.toList old.data.toList new.data.toList)
end Go.Proofs.YtghmlhdlkgjbeaaDoorAv
