/- addr's laws, in the rows' words; what the listed variables hold. -/
import Derived.Test.YtghmlhdlkgjbeaaDoorRows
import Derived.Test.YtghmlhdlkgjbeaaDoorAdI
import Derived.Test.YtghmlhdlkgjbeaaDoorRsRowG
import Derived.Test.YtghmlhdlkgjbeaaDoorAvArr
set_option linter.unusedVariables false
set_option linter.unusedSimpArgs false
set_option maxRecDepth 100000
namespace Go.Proofs.YtghmlhdlkgjbeaaDoorAv
open Go Go.RowKit
theorem ints_cells (k : IntKind) (l : List Int) : ∀ v ∈ l.map (Value.int k), (∃ k n, v = .int k n) ∨ ∃ s, v = .string s := fun v hv => by
  obtain ⟨s, _, rfl⟩ := List.mem_map.1 hv
  exact .inl ⟨k, s, rfl⟩
theorem glb_ok {W : World} (hL : laidMetH Tryd.prog YtghmlhdlkgjbeaaDoor.Rows.addrBackRow.laid W) (hs : W.ShapedOpen Tryd.prog) : Glb noL W := by
  intro g vs hm
  simp only [glbT, List.mem_cons, List.not_mem_nil, or_false, Prod.mk.injEq] at hm
  rcases hm with ⟨rfl, rfl⟩ | ⟨rfl, rfl⟩ | ⟨rfl, rfl⟩ | ⟨rfl, rfl⟩ | ⟨rfl, rfl⟩
  · exact glb_row (t := 108) (e := 5) (n := 64) hL "math/bits.deBruijn64tab" ([0, 1, 56, 2, 57, 49, 28, 3, 61, 58, 42, 50, 38, 29, 17, 4, 62, 47, 59, 36, 45, 43, 51, 22, 53, 39, 33, 30, 24, 18, 12, 5, 63, 55, 48, 27, 60, 41, 37, 16, 46, 35, 44, 21, 52, 32, 23, 11, 54, 26, 40, 15, 34, 20, 31, 10, 25, 14, 19, 9, 13, 8, 7, 6].map (Value.int .u8)) (.tail _ (.head _)) (by kernel_rfl) (by kernel_rfl) Tryd.underlying108 (.inl ⟨_, Tryd.underlying5⟩) (by kernel_rfl) (by kernel_rfl) (ints_cells _ _) (by decide)
  · exact glb_row (t := 89) (e := 54) (n := 20) hL "internal/strconv.uint64pow10" ([1, 10, 100, 1000, 10000, 100000, 1000000, 10000000, 100000000, 1000000000, 10000000000, 100000000000, 1000000000000, 10000000000000, 100000000000000, 1000000000000000, 10000000000000000, 100000000000000000, 1000000000000000000, 10000000000000000000].map (Value.int .u64)) (.tail _ (.tail _ (.head _))) (by kernel_rfl) (by kernel_rfl) Tryd.underlying89 (.inl ⟨_, Tryd.underlying54⟩) (by kernel_rfl) (by kernel_rfl) (ints_cells _ _) (by decide)
  · exact glb_laidIfc (t := 56) (zero := #[.nilIface]) hL "strconv.ErrSyntax" (.tail _ (.tail _ (.tail _ (.tail _ (.tail _ (.head _)))))) rfl hs (of_decide_eq_true (by kernel_rfl)) (by kernel_rfl) (by kernel_rfl) (by kernel_rfl) rfl Tryd.underlying56
  · exact glb_laidIfc (t := 56) (zero := #[.nilIface]) hL "strconv.ErrRange" (.tail _ (.tail _ (.tail _ (.tail _ (.head _))))) rfl hs (of_decide_eq_true (by kernel_rfl)) (by kernel_rfl) (by kernel_rfl) (by kernel_rfl) rfl Tryd.underlying56
  · exact glb_int (zero := #[.int .i64 0]) (t := 3) hs (of_decide_eq_true (by kernel_rfl)) (by kernel_rfl) rfl (by kernel_rfl) (by kernel_rfl) Tryd.underlying3
/-- An address, as known. -/
def adrAV (g : Nat → Int) : AV := toAV (adr g)
def adrV (g : Nat → Int) : Value := .agg #[.int .u8 (g 0), .int .u8 (g 1), .int .u8 (g 2), .int .u8 (g 3), .int .u8 (g 4), .int .u8 (g 5), .int .u8 (g 6), .int .u8 (g 7), .int .u8 (g 8), .int .u8 (g 9), .int .u8 (g 10), .int .u8 (g 11), .int .u8 (g 12), .int .u8 (g 13), .int .u8 (g 14), .int .u8 (g 15)]
theorem adr_vs (L : GH) (w : World) (g : Nat → Int) : VS L w (adrAV g) (adrV g) := by
  unfold adrAV adrV adr
  simp only [toAV, toAVL, VS]
  exact ⟨[.int .u8 (g 0), .int .u8 (g 1), .int .u8 (g 2), .int .u8 (g 3), .int .u8 (g 4), .int .u8 (g 5), .int .u8 (g 6), .int .u8 (g 7), .int .u8 (g 8), .int .u8 (g 9), .int .u8 (g 10), .int .u8 (g 11), .int .u8 (g 12), .int .u8 (g 13), .int .u8 (g 14), .int .u8 (g 15)], rfl, by simp [VSL, VS]⟩
theorem adr_rv (ρ : Rho) (g : Nat → Int) : RV ρ (adr g) (adrAV g) := by
  unfold adrAV adr
  simp only [toAV, toAVL, RV, RVL]
  exact ⟨_, rfl, rfl, rfl, rfl, rfl, rfl, rfl, rfl, rfl, rfl, rfl, rfl, rfl, rfl, rfl, rfl, rfl, trivial⟩
theorem open_adr {H : Type} {enc : TypeId × Value → H} {P : Program} {W : World} {base : Nat} {sp : Nat → Bool} {held : Bool} {t e : TypeId} {r : Reach} {b0 : Nat} {v : Value} {d : DataW H} {ps : List MemPlace}
    (ht : P.underlying t = some (.array 16 e)) (he : P.underlying e = some (.int .u8)) (hc : P.cellsOf e = 1) (hct : P.cellsOf t = 16)
    (hval : Value.okWide P W r b0 t v) (hd : DataW.Trod enc P W base sp held t v d ps) : ∃ g, v = adrV g ∧ b16 g := by
  obtain ⟨l, hl, rfl, hb⟩ := open_u8s ht he hc hct hval hd
  refine ⟨fun i => l.getD i 0, ?_, fun k hk => ?_⟩
  · rcases l with _ | ⟨a0, _ | ⟨a1, _ | ⟨a2, _ | ⟨a3, _ | ⟨a4, _ | ⟨a5, _ | ⟨a6, _ | ⟨a7, _ | ⟨a8, _ | ⟨a9, _ | ⟨a10, _ | ⟨a11, _ | ⟨a12, _ | ⟨a13, _ | ⟨a14, _ | ⟨a15, _ | ⟨a16, l⟩⟩⟩⟩⟩⟩⟩⟩⟩⟩⟩⟩⟩⟩⟩⟩⟩
    case cons.cons.cons.cons.cons.cons.cons.cons.cons.cons.cons.cons.cons.cons.cons.cons.nil => rfl
    all_goals (exfalso; simp at hl; try omega)
  · dsimp only
    rw [List.getD_eq_getElem?_getD, List.getElem?_eq_getElem (by omega)]
    exact hb _ (List.getElem_mem _)
theorem addrBack_J (L : GH) (a : Nat → Int) (s : ByteArray) (ha : b16 a) (hs : s.size ≤ 140737488351232) : JF Tryd.prog 3 [adrAV a, strAV s] L (fun v L' => v = boolAV true ∧ L' = L) := by
  refine law_J back_ok (xs := [adr a, XT s]) (cs := _) rfl ?_ ?_ L
  · intro p hp
    simp only [List.nil_append, List.mem_cons, List.not_mem_nil, or_false] at hp
    rcases hp with rfl
    exact b16_l ha
  · simp only [RVL]
    exact ⟨adr_rv _ a, by simp [RV, strAV], trivial⟩
theorem addrApart_J (L : GH) (a b : Nat → Int) (ha : b16 a) (hb : b16 b) : JF Tryd.prog 6 [adrAV a, adrAV b] L (fun v L' => v = boolAV true ∧ L' = L) := by
  refine law_J apart_ok (xs := [adr a, adr b]) (cs := _) rfl ?_ ?_ L
  · intro p hp
    simp only [List.nil_append, List.mem_cons, List.not_mem_nil, or_false] at hp
    rcases hp with rfl | rfl
    · exact b16_l ha
    · exact b16_l hb
  · simp only [RVL]
    exact ⟨adr_rv _ a, adr_rv _ b, trivial⟩
end Go.Proofs.YtghmlhdlkgjbeaaDoorAv
