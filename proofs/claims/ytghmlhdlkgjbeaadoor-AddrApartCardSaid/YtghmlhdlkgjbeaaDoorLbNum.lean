/- strconv.Itoa, strings.HasSuffix, strings.Join: the shelf's contracts. -/
import Derived.Test.YtghmlhdlkgjbeaaDoorPlB
import Derived.Lib.AppendIntMem
set_option linter.unusedVariables false
set_option linter.unusedSimpArgs false
namespace Go.Proofs.YtghmlhdlkgjbeaaDoorAv
open Go Go.RowKit
def hasSufB (s p : ByteArray) : Bool := Lib.hasSuffix s.data.toList p.data.toList
def hasSufC : CT := C2 dStr dStr (fun s _ => [s.size ≤ 1000000000]) fun s p => XB (hasSufB s p)
theorem hasSuf_ok : CTok Tryd.prog 25 hasSufC := by
  refine ct_str2 Tryd.func25 rfl (by decide) (fun a b => by simp [XV.pd]) fun s p hc L w hg hfr => ?_
  have h0 : s.size ≤ 1000000000 := hc _ (by simp)
  refine (Tryd.strings_HasSuffix s p w (by omega)).mono fun e w' ⟨he, hw⟩ => ⟨_, he, ?_, Below.same' hw⟩
  simp [toAV, VS, hasSufB]
theorem glb_tab {L : GH} {w : World} {P : Program} (hg : Glb L w) {name : String} {g : Nat} {k : IntKind} {zs : List Int} {vs : List GV} (hn : P.globalNamed name = some g) (hm : (g, vs) ∈ glbT) (hv : vs = zs.map fun z => GV.val (.int k z)) : Lib.TabIs P w name k zs := by
  obtain ⟨-, -, h, c, e, fr, hh, hs⟩ := hg g vs hm
  unfold Lib.TabIs World.var?
  rw [hn]
  simp only [Option.bind_some, hh, Option.some.injEq]
  apply Array.ext'
  apply List.ext_getElem?
  intro i
  subst hv
  rw [List.length_map] at hs
  rcases Nat.lt_or_ge i zs.length with hi | hi
  · obtain ⟨x, hx, hi', -⟩ := h i (.val (.int k zs[i])) (by rw [List.getElem?_map, List.getElem?_eq_getElem hi]; rfl)
    unfold World.cell? at hx
    simp only [hh] at hx
    rw [Array.getElem?_toList]
    have hx : c[i]? = some x := hx
    rw [hx, List.getElem?_map, List.getElem?_eq_getElem hi]
    have hi' : x = .int k zs[i] := hi'
    rw [hi']
    rfl
  · rw [List.getElem?_eq_none (by rw [Array.length_toList]; omega), List.getElem?_eq_none (by simpa using hi)]
def itoaB (n : Int) : ByteArray := mk8 (Lib.itoa n)
def itoaC : CT := C1 dInt (fun n => [0 ≤ n, n ≤ 1000000]) fun n => XT (itoaB n)
theorem pow10_glb {L : GH} {w : World} (hg : Glb L w) : Lib.TabIs Tryd.prog w "internal/strconv.uint64pow10" .u64 Lib.pow10Tab := by
  refine glb_tab hg (by kernel_rfl) (.tail _ (.head _)) (by kernel_rfl)
theorem itoa_ok : CTok Tryd.prog 23 itoaC := by
  refine ct_lib Tryd.func23 rfl (by decide) fun args cs v hC hc => ?_
  unfold itoaC C1 at hC
  split at hC
  · rename_i x
    split at hC
    · rename_i p n hx
      obtain ⟨rfl, rfl⟩ := dInt_dec hx
      simp only [List.nil_append, Option.some.injEq, Prod.mk.injEq] at hC
      obtain ⟨rfl, rfl⟩ := hC
      refine ⟨rfl, rfl, fun L w xs hg hfr hv => ?_⟩
      have h0 : 0 ≤ n := hc _ (by simp)
      have h1 : n ≤ 1000000 := hc _ (by simp)
      have := VSL_map_p (l := [.int .i64 n]) (xs := xs) (show VSL L w [AV.p (.int .i64 n)] xs from hv)
      subst this
      refine (Tryd.strconv_Itoa n (by omega) (by omega) w (pow10_glb hg)).mono fun e w' ⟨he, k, os, hw⟩ => ⟨_, he, by simp [toAV, VS, itoaB, mk8], by rw [hw]; exact Lib.below_grow w.heap.size w (Nat.le_refl _) k os⟩
    · cases hC
  · cases hC
def joinB (l : List ByteArray) (sep : ByteArray) : ByteArray := mk8 (Lib.join (l.map (·.data.toList)) sep.data.toList)
theorem intercalate_len (sep : List UInt8) (k : Nat) : ∀ l : List (List UInt8), (∀ x ∈ l, x.length ≤ k) → (sep.intercalate l).length ≤ l.length * (k + sep.length)
  | [], _ => by simp [List.intercalate]
  | [x], h => by
    have := h x (by simp)
    simp [List.intercalate]
    omega
  | x :: y :: l, h => by
    have h1 := h x (by simp)
    have ih := intercalate_len sep k (y :: l) (fun z hz => h z (by simp [hz]))
    have e : sep.intercalate (x :: y :: l) = x ++ (sep ++ sep.intercalate (y :: l)) := by simp [List.intercalate]
    rw [e, List.length_append, List.length_append, List.length_cons, Nat.add_mul, Nat.one_mul]
    omega
def joinC : CT := C2 dStrs dStr (fun q s => [q.n ≤ 1000, ∀ i, i < q.n → (q.g i).size ≤ 1000000, s.size ≤ 1000]) fun q s => XT (joinB ((List.range q.n).map q.g) s)
theorem join_ok : CTok Tryd.prog 24 joinC := by
  refine ct_lib2 Tryd.func24 rfl (by decide) dSl_ok dStr_eq.ok (fun _ _ => rfl) fun q s hc L w x y hg hfr hx hy => ?_
  have h0 : q.n ≤ 1000 := hc _ (by simp)
  have h1 : ∀ i, i < q.n → (q.g i).size ≤ 1000000 := hc _ (by simp)
  have h2 : s.size ≤ 1000 := hc _ (by simp)
  have hy : y = .string s := hy
  subst hy
  have hx : VS L w (.fz q.n (vecOf q.n 1 fun i => toAVL [XT (q.g i)])) x := hx
  simp only [VS] at hx
  obtain ⟨a, cap, vs, rfl, hle, hc', hvs⟩ := hx
  have e : (vecOf q.n 1 fun i => toAVL [XT (q.g i)]) = ((List.range q.n).map q.g).map fun s => .p (Value.string s) := by
    unfold vecOf
    rw [Nat.mul_one, List.map_map]
    apply List.map_congr_left
    intro i _
    simp [Nat.mod_one, toAVL, toAV]
  rw [e] at hvs
  have hv := VSL.of_p (fun s : ByteArray => Value.string s) _ vs hvs
  have hlen : ((List.range q.n).map q.g).length = q.n := by simp
  have out : ∀ w', VS L w' (toAV (XT (joinB ((List.range q.n).map q.g) s))) (.string ⟨(Lib.join (((List.range q.n).map q.g).map (·.data.toList)) s.data.toList).toArray⟩) := fun w' => by simp [toAV, VS, joinB, mk8]
  by_cases h00 : q.n = 0
  · rw [h00]
    refine (Tryd.strings_Join_none a cap s w).mono fun e w' ⟨he, hw⟩ => ⟨_, he, ?_, Below.same' hw⟩
    have := out w'
    rw [h00] at this
    exact this
  · rcases hc' with hc' | ⟨ad, rfl, _, _, hc'⟩
    · rw [hc'] at hv
      have := congrArg List.length hv
      rw [List.length_map, hlen] at this
      exact absurd this.symm h00
    · have hcell : ∀ (j : Nat) z, ((List.range q.n).map q.g)[j]? = some z → w.cell? (ad.add j) = some (.string z) := fun j z hz => hc' j _ (by rw [hv, List.getElem?_map, hz]; rfl)
      obtain ⟨b, o, sp⟩ := ad
      have h01 : ∃ z, w.cell? ⟨b, o, sp⟩ = some z := by
        have := hcell 0 (q.g 0) (by rw [List.getElem?_map, List.getElem?_range (by omega)]; rfl)
        exact ⟨_, this⟩
      obtain ⟨z, hz⟩ := h01
      have hb : b < w.heap.size := by
        refine Nat.lt_of_not_le fun hle => ?_
        unfold World.cell? at hz
        simp only [Array.getElem?_eq_none hle] at hz
        cases hz
      have hsp : sp = none := by
        unfold World.cell? at hz
        cases hh : w.heap[b]? with
        | none => simp only [hh] at hz; cases hz
        | some ob =>
          simp only [hh] at hz
          cases ob with
          | cells c e fr =>
            cases sp with
            | none => rfl
            | some _ => simp at hz
          | _ => simp at hz
      subst hsp
      have hj : (Lib.join (((List.range q.n).map q.g).map (·.data.toList)) s.data.toList).length ≤ 140737488355328 := by
        have h4 := intercalate_len s.data.toList 1000000 (((List.range q.n).map q.g).map (·.data.toList)) (fun x hx => by
          rw [List.map_map] at hx
          obtain ⟨i, hi, rfl⟩ := List.mem_map.1 hx
          have h5 := h1 i (List.mem_range.1 hi)
          rw [size_data] at h5
          show (q.g i).data.toList.length ≤ 1000000
          exact h5)
        rw [List.length_map, hlen, ← size_data] at h4
        have h3 : q.n * (1000000 + s.size) ≤ 1000 * (1000000 + 1000) := Nat.mul_le_mul h0 (by omega)
        unfold Lib.join
        omega
      have J := Tryd.strings_Join b o cap ((List.range q.n).map q.g) s w (fun j z hz => (add_plain b o j) ▸ hcell j z hz) hb (by omega) (by omega) hj
      rw [hlen] at J
      exact J.mono fun e w' ⟨he, hw⟩ => ⟨_, he, out w', hw⟩
end Go.Proofs.YtghmlhdlkgjbeaaDoorAv
