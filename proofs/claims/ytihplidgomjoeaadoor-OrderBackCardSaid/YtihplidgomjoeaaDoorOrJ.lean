/- order's laws: Spaces, Back, proved. -/
import Derived.Test.YtihplidgomjoeaaDoorOrI
set_option linter.unusedVariables false
set_option linter.unusedSimpArgs false
set_option maxRecDepth 100000
namespace Go.Proofs.YtihplidgomjoeaaDoorAv
open Go Go.RowKit
theorem srD_cells (s : Sr) : [XI s.k, XB s.r0, XB s.r1, XB s.r2, XB s.r3, XB s.r4] = [XI (srD [XI s.k, XB s.r0, XB s.r1, XB s.r2, XB s.r3, XB s.r4]).k, XB (srD [XI s.k, XB s.r0, XB s.r1, XB s.r2, XB s.r3, XB s.r4]).r0, XB (srD [XI s.k, XB s.r0, XB s.r1, XB s.r2, XB s.r3, XB s.r4]).r1, XB (srD [XI s.k, XB s.r0, XB s.r1, XB s.r2, XB s.r3, XB s.r4]).r2, XB (srD [XI s.k, XB s.r0, XB s.r1, XB s.r2, XB s.r3, XB s.r4]).r3, XB (srD [XI s.k, XB s.r0, XB s.r1, XB s.r2, XB s.r3, XB s.r4]).r4] := rfl
theorem srD_eq (s : Sr) : srD [XI s.k, XB s.r0, XB s.r1, XB s.r2, XB s.r3, XB s.r4] = s := rfl
theorem sp_v (q : Sq Int) : spV q := by
  unfold spV
  refine ⟨fun h => absurd h (by decide), fun _ => ⟨fun _ => rfl, fun h4 => ?_⟩⟩
  have hn : q.n ≤ 4 := by
    have : ¬ (q.n : Int) > 4 := of_decide_eq_false h4
    omega
  refine ⟨⟨⟨0⟩, Nat.zero_le _, rfl, rfl, rfl, rfl, rfl, rfl, trivial⟩, fun x hx => ⟨fun h => ?_, fun h => ?_⟩⟩
  · have hlt : x.i < q.n := by
      have : (x.i : Int) < q.n := of_decide_eq_true h
      omega
    have hN := spN_bd (q.g x.i)
    have hM := spM_bd (q.g x.i)
    have hks := kindG_size (spN (q.g x.i)).toNat
    have hgs := spG_size (spM (q.g x.i)).toNat
    have hA := spA_size q x.i
    have hB := spB_size q x.i
    have eA : spA q (x.i + 1) = if spG (spM (q.g x.i)).toNat = ⟨#[]⟩ then spA q x.i ++ (⟨#[32]⟩ ++ kindG (spN (q.g x.i)).toNat) else spA q x.i ++ (⟨#[32]⟩ ++ kindG (spN (q.g x.i)).toNat) ++ (⟨#[91]⟩ ++ spG (spM (q.g x.i)).toNat ++ ⟨#[93]⟩) := rfl
    have eB : spB q (x.i + 1) = if spG (spM (q.g x.i)).toNat = ⟨#[]⟩ then spB q x.i ++ (⟨#[9]⟩ ++ kindG (spN (q.g x.i)).toNat) else spB q x.i ++ (⟨#[9]⟩ ++ kindG (spN (q.g x.i)).toNat) ++ (⟨#[32, 32, 91, 32, 32]⟩ ++ spG (spM (q.g x.i)).toNat ++ ⟨#[32, 93]⟩) := rfl
    refine ⟨by omega, by omega, by decide, hN.1, hN.2, hM.1, hM.2, ?_, ?_, ?_, ?_, fun h2 => ⟨?_, ?_, ?_, ?_, ?_, ?_, by unfold in64; omega, ⟨x.i + 1⟩, hlt, by show q.n - (x.i + 1) < q.n - x.i; omega, ?_⟩, fun h2 => ⟨by unfold in64; omega, ⟨x.i + 1⟩, hlt, by show q.n - (x.i + 1) < q.n - x.i; omega, ?_⟩⟩
    · show 1 + (kindG (spN (q.g x.i)).toNat).size ≤ _
      omega
    · rw [ByteArray.size_append, sz1]
      show _ + (1 + (kindG (spN (q.g x.i)).toNat).size) ≤ _
      omega
    · show 1 + (kindG (spN (q.g x.i)).toNat).size ≤ _
      omega
    · rw [ByteArray.size_append, sz1]
      show _ + (1 + (kindG (spN (q.g x.i)).toNat).size) ≤ _
      omega
    · show 1 + (spG (spM (q.g x.i)).toNat).size ≤ _
      omega
    · rw [ByteArray.size_append, sz1]
      show 1 + (spG (spM (q.g x.i)).toNat).size + 1 ≤ _
      omega
    · show (spA q x.i ++ (⟨#[32]⟩ ++ kindG (spN (q.g x.i)).toNat)).size + (⟨#[91]⟩ ++ spG (spM (q.g x.i)).toNat ++ ⟨#[93]⟩ : ByteArray).size ≤ _
      simp only [ByteArray.size_append, sz1]
      omega
    · show 5 + (spG (spM (q.g x.i)).toNat).size ≤ _
      omega
    · show (⟨#[32, 32, 91, 32, 32]⟩ ++ spG (spM (q.g x.i)).toNat : ByteArray).size + 2 ≤ _
      simp only [ByteArray.size_append, sz5]
      omega
    · show (spB q x.i ++ (⟨#[9]⟩ ++ kindG (spN (q.g x.i)).toNat)).size + (⟨#[32, 32, 91, 32, 32]⟩ ++ spG (spM (q.g x.i)).toNat ++ ⟨#[32, 93]⟩ : ByteArray).size ≤ _
      simp only [ByteArray.size_append, sz1, sz2, sz5]
      omega
    · have h3 : ¬ spG (spM (q.g x.i)).toNat = ⟨#[]⟩ := by
        have : (!decide (spG (spM (q.g x.i)).toNat = ⟨#[]⟩)) = true := h2
        simpa using this
      rw [if_neg h3] at eA eB
      exact ⟨rfl, eA.symm, eB.symm, rfl, rfl, rfl, trivial⟩
    · have h3 : spG (spM (q.g x.i)).toNat = ⟨#[]⟩ := by
        have : (!decide (spG (spM (q.g x.i)).toNat = ⟨#[]⟩)) = false := h2
        simpa using this
      rw [if_pos h3] at eA eB
      exact ⟨rfl, eA.symm, eB.symm, rfl, rfl, rfl, trivial⟩
  · have hxn : x.i = q.n := by
      have : ¬ (x.i : Int) < q.n := of_decide_eq_false h
      have : x.i ≤ q.n := hx
      omega
    have hA := spA_size q q.n
    have hB := spB_size q q.n
    have hz := sp_zero q q.n hn
    have he := parse_congr _ _ ((spB_words q q.n).trans (spA_words q q.n).symm)
    have hi := (parse_inv (spA q q.n)).1 hz
    have hB2 : (spB q q.n ++ ⟨#[32, 35, 32, 100, 110, 115, 32, 91]⟩).size = (spB q q.n).size + 8 := by rw [ByteArray.size_append]; rfl
    rw [hxn]
    refine ⟨by omega, by omega, by omega, ?_⟩
    rw [he, hz]
    generalize (parse (spA q q.n)).1 = l at hi ⊢
    have hl := hi.2.1
    refine ⟨fun _ _ _ => rfl, fun _ _ _ => rfl, fun _ => by omega, fun _ => by omega, ?_⟩
    show ((0 : Int) == 0 && (0 : Int) == 0 && (decide (l.length = l.length) && sameF (fun i => l.getD i default) (fun i => l.getD i default) l.length 0)) = true
    rw [sameF_self, decide_eq_true rfl]
    rfl
theorem sp_ok : CTok Tryd.prog 6 (C1 dInts (fun _ => []) fun _ => XB true) := C1_ok cxg_ok Tryd.func6 rfl (by decide) dSl_ok (by kernel_rfl) (fun _ => rfl) fun q _ => exv (spV_eq q) (sp_v q)
theorem bk_v (s : ByteArray) : bkV s := by
  unfold bkV
  have hinv := parse_inv s
  refine ⟨fun h => absurd h (by decide), fun _ => ⟨fun _ => rfl, fun hs => ⟨?_, fun he => ?_, fun he => ?_⟩⟩⟩
  · have : ¬ (s.size : Int) > 1000 := of_decide_eq_false hs
    omega
  · have he : (parse s).2 ≠ 0 := by simpa using he
    obtain ⟨h1, h2⟩ := hinv.2 he
    rw [h1]
    rcases h2 with h2 | h2 <;> rw [h2] <;> rfl
  · have he : (parse s).2 = 0 := by simpa using he
    obtain ⟨h1, h2, h3⟩ := hinv.1 he
    have hb := bk_parse (parse s).1 h1 h3 h2
    have hp := printS_size (fun i => (parse s).1.getD i default) (parse s).1.length
    generalize (parse s).1 = l at h1 h2 h3 hb hp ⊢
    have hk : ∀ i, i < l.length → srOk (l.getD i default) := fun i hi => h1 _ (by
      rw [List.getD_eq_getElem?_getD, List.getElem?_eq_getElem hi]
      exact List.getElem_mem _)
    refine ⟨fun _ _ => rfl, h2, fun i hi => ⟨(hk i hi).1, (hk i hi).2.1⟩, ?_, ⟨⟨0⟩, Nat.zero_le _, rfl, rfl, rfl, rfl, rfl, rfl, rfl, trivial⟩, fun x hx => ⟨fun h => ?_, fun h => ?_⟩⟩
    · show (printS (fun i => l.getD i default) l.length).size ≤ _
      omega
    · have hlt : x.i < l.length := by
        have : (x.i : Int) < (l.length : Int) := of_decide_eq_true h
        omega
      have hx := hk x.i hlt
      obtain ⟨h5, h6, h7⟩ := hx
      have hc : (decide ((l.getD x.i default).k < 1) || decide ((l.getD x.i default).k > 3) || (l.getD x.i default).r0) = false := by
        rw [decide_eq_false (by omega), decide_eq_false (by omega), h7]
        rfl
      refine ⟨by omega, Int.ofNat_lt.2 hlt, fun _ => by omega, fun _ => by decide, fun _ => by show 0 < 5; omega, fun e => ?_, fun _ => ⟨by unfold in64; omega, ⟨x.i + 1⟩, hlt, by show l.length - (x.i + 1) < l.length - x.i; omega, rfl, rfl, rfl, rfl, rfl, rfl, rfl, trivial⟩⟩
      exact hc.symm.trans e
    · refine ⟨fun _ _ _ => rfl, fun _ _ _ => srD_cells _, fun _ => by omega, fun _ => ?_, ?_⟩
      · show (parse (printS (fun i => l.getD i default) l.length)).1.length ≤ _
        rw [hb]
        show l.length ≤ _
        omega
      · have h0 : 0 < l.length := List.length_pos_iff.2 h3
        simp only [srD_eq]
        rw [hb]
        simp only [sameF_self, decide_eq_true (by omega : (l.length : Int) ≥ 1), decide_eq_true (by omega : (l.length : Int) ≤ 4)]
        simp
theorem bk_ok : CTok Tryd.prog 7 (C1 dStr (fun _ => []) fun _ => XB true) := C1_ok cxg_ok Tryd.func7 rfl (by decide) dStr_eq.ok (by kernel_rfl) (fun _ => rfl) fun s _ => exv (bkV_eq s) (bk_v s)
end Go.Proofs.YtihplidgomjoeaaDoorAv
