/- strings.Cut, strings.CutPrefix: the shelf's contracts. -/
import Derived.Test.YtghmlhdlkgjbeaaDoorAvLib
import Derived.Test.YtghmlhdlkgjbeaaDoorTab
import Derived.Test.YtghmlhdlkgjbeaaDoorShelf
set_option linter.unusedVariables false
set_option linter.unusedSimpArgs false
namespace Go.Proofs.YtghmlhdlkgjbeaaDoorAv
open Go Go.RowKit
def mk8 (l : List UInt8) : ByteArray := ⟨l.toArray⟩
def cutB (s sep : ByteArray) : ByteArray × ByteArray × Bool := (mk8 (Lib.cut s.data.toList sep.data.toList).1, mk8 (Lib.cut s.data.toList sep.data.toList).2.1, (Lib.cut s.data.toList sep.data.toList).2.2)
def cutC : CT := C2 dStr dStr (fun s _ => [s.size < 4294967281]) fun s sep => .tup [XT (cutB s sep).1, XT (cutB s sep).2.1, XB (cutB s sep).2.2]
theorem maxLen_glb {L : GH} {w : World} (hg : Glb L w) : ∃ m, w.cell? ⟨3, 0, none⟩ = some (.int .i64 m) := by
  obtain ⟨-, -, h, -⟩ := hg 3 [.int .i64] (by simp [glbT])
  obtain ⟨x, hx, ⟨i, rfl⟩, -⟩ := h 0 (.int .i64) rfl
  exact ⟨i, hx⟩
theorem cut_ok : CTok Tryd.prog 29 cutC := by
  refine ct_str2 Tryd.func29 rfl (by decide) (fun a b => by simp [XV.pd, pdL]) fun s sep hc L w hg hfr => ?_
  obtain ⟨m, hm⟩ := maxLen_glb hg
  refine (Tryd.strings_Cut s sep m w (hc _ (by simp)) hm).mono fun e w' ⟨he, n, hw⟩ => ⟨_, he, ?_, by rw [hw]; exact Below.drewN' w n⟩
  simp only [toAV, toAVL, VS]
  exact ⟨[_, _, _], rfl, by simp [VSL, VS, cutB, mk8]⟩
def cutPreB (s p : ByteArray) : ByteArray × Bool := (mk8 (Lib.trimPrefix s.data.toList p.data.toList), Lib.hasPrefix s.data.toList p.data.toList)
end Go.Proofs.YtghmlhdlkgjbeaaDoorAv
