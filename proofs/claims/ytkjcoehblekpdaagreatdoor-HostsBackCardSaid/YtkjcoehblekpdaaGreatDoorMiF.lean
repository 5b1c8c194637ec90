/- Own texts, put together. -/
import Derived.Test.YtkjcoehblekpdaaGreatDoorMiE
import Derived.WalkKit
import Derived.Deep.LoopGhost
import Derived.Laws.OwnMore
import Derived.Laws.CopyRow
import Derived.Lib.ConvBytes
import Derived.Below
import Derived.KernelRfl
import Derived.Scope
import Derived.Laws.BytesString
import Derived.DataElems
import Derived.Laws.Tables
import Derived.Laws.Cells
import Derived.Laws.StructEq
import Derived.Laws.RangeString
import Derived.BigQuiet
import Derived.Test.YtkjcoehblekpdaaGreatDoorProg
import Derived.Shelf.Strings.Builder1
import Derived.Shelf.Strings.Builder2
import Derived.Shelf.Strings.OnBuilder
import Derived.Shelf.Small.Wraps
import Derived.Shelf.Strings.BuilderF
import Derived.Shelf.Strings.BuilderK
import Derived.Shelf.Utf8.RuneCount
import Derived.Shelf.Strings.Builder2Cap
import Derived.Shelf.Strconv.Itoa0
import Derived.Shelf.Strconv.Itoa1
import Derived.Shelf.LaysM
import Derived.Shelf.Strconv.Itoa2
import Derived.Shelf.Strconv.Itoa3
import Derived.Shelf.Strconv.Itoa4
import Derived.Shelf.Strconv.Clone
import Derived.Shelf.Strconv.SyntaxError
import Derived.Shelf.LaysC
import Derived.Shelf.Strconv.ToError
import Derived.Shelf.Strconv.Lower
import Derived.Shelf.Strconv.ParseUint10
import Derived.Shelf.Strconv.ParseUint10Empty
import Derived.Shelf.Strconv.ParseUint10Any
import Derived.Shelf.Strconv.RangeError
import Derived.Shelf.Strconv.ToErrorRange
import Derived.Shelf.Strconv.ParseUintEmpty
import Derived.Shelf.Strconv.ParseUint10b64
import Derived.Shelf.Strconv.ParseUint10b32
import Derived.Shelf.Strconv.ParseUint10b16
import Derived.Shelf.Strconv.ParseUint10b8
import Derived.Shelf.Strconv.ParseUint10At
import Derived.Shelf.Strings.Search1
import Derived.Shelf.Strings.Search2
import Derived.Shelf.Strings.Search3
import Derived.Shelf.Strings.Cut
import Derived.Shelf.Strings.Count
import Derived.Shelf.Strings.Shaped
import Derived.Shelf.Strings.LastIndex
import Derived.Shelf.Strings.Prefix
import Derived.Shelf.Strings.Split
import Derived.Shelf.Strings.Replace
import Derived.Shelf.Strings.Fold
import Derived.Shelf.Strings.SplitShaped
import Derived.Shelf.Unicode.Decode
import Derived.Shelf.Strings.RuneCount
import Derived.Shelf.Unicode.DecodeSlow
import Derived.Shelf.Unicode.DecodeAny
import Derived.Shelf.Unicode.ValidAny
import Derived.Shelf.Unicode.CaseLookup
import Derived.Shelf.Unicode.CaseConvert
import Derived.Shelf.Strings.BuilderCap
import Derived.OpenShut
import Derived.SliceStrings
import Derived.ChangeSlices
import Derived.SizedLaws
import Derived.Carry
import Derived.Lib.LaidTab
import Derived.Shelf.Vars
import Derived.WideKeyArr2
import Derived.Lay
import Derived.Deep.DeepHandedRow
import Derived.Test.YtkjcoehblekpdaaGreatDoorRows
import Derived.Lib.LaidU8T
import Derived.Lib.Replace
import Derived.Lib.AppendIntMem
import Derived.Laws.BitsLemmas
import Derived.Lib.ValidLaws
set_option linter.unusedVariables false
set_option linter.unusedSimpArgs false
set_option maxRecDepth 100000
namespace Go.Proofs.YtkjcoehblekpdaaGreatDoorAv
open Go Go.RowKit
theorem low_fix {c : UInt8} (h : lowc c = c) : ¬ (65 ≤ c.toNat ∧ c.toNat ≤ 90) := fun k => by
 have := congrArg UInt8.toNat h
 rw [lowc_nat, if_pos k] at this
 omega
theorem fix_low {c : UInt8} (h : ¬ (65 ≤ c.toNat ∧ c.toNat ≤ 90)) : lowc c = c := by unfold lowc; rw [if_neg h]
theorem fold_low {a b : UInt8} (ha : lowc a = a) (hb : lowc b = b) (h : Lib.foldEq a b = true) : a = b := by
 have na := low_fix ha
 have nb := low_fix hb
 unfold Lib.foldEq at h
 rw [decide_eq_true_eq] at h
 apply UInt8.toNat_inj.1
 omega
theorem eqf_low : ∀ a b : List UInt8, a.map lowc = a → b.map lowc = b → Lib.equalFold a b = true → a = b
 | [], [], _, _, _ => rfl
 | x :: a, y :: b, h1, h2, h => by
  rw [Lib.equalFold, Bool.and_eq_true] at h
  rw [List.map_cons, List.cons.injEq] at h1 h2
  rw [fold_low h1.1 h2.1 h.1, eqf_low a b h1.2 h2.2 h.2]
 | [], y :: b, _, _, h => by simp [Lib.equalFold] at h
 | x :: a, [], _, _, h => by simp [Lib.equalFold] at h
theorem okC_dig : ∀ n : Fin 128, (48 ≤ n.val ∧ n.val ≤ 57 ∨ 97 ≤ n.val ∧ n.val ≤ 122) → okC n.val = true := by decide +kernel
structure EncO (l o : List Int) : Prop where
 ok : ∀ x ∈ o, 0 ≤ x ∧ x < 128 ∧ okC x = true
 low : (∀ r ∈ l, ¬ (65 ≤ r ∧ r ≤ 90)) → ∀ x ∈ o, ¬ (65 ≤ x ∧ x ≤ 90)
 last : (∃ r ∈ l, 128 ≤ r) → ∃ o' d, o = o' ++ [d] ∧ digP d
theorem encO {l o : List Int} (hl : l.length ≤ 63) (hb : ∀ r ∈ l, 0 ≤ r ∧ badC r = false) (ho : encR (fun j => l.getD j 0) l.length = (o, 0)) : EncO l o := by
 have hg : ∀ r ∈ l, 0 ≤ r ∧ r < 2000 := fun r hr => ⟨(hb r hr).1, by have := (nb_rng (hb r hr).1 (hb r hr).2).1; omega⟩
 obtain ⟨k', dg, e1, e2, e3, e4⟩ := encR_RI hl hg ho
 have he := eo0_filt l l.length (Nat.le_refl _)
 rw [List.take_length] at he
 have hm : ∀ x ∈ o, (x ∈ l ∧ x < 128) ∨ x = 45 ∨ digP x := fun x hx => by
  rw [e1] at hx
  rcases List.mem_append.1 hx with k | k
  ·unfold eo1 at k
   rw [he] at k
   split at k
   ·rcases List.mem_append.1 k with k | k
    ·have := List.mem_filter.1 k
     exact .inl ⟨this.1, by simpa using this.2⟩
    ·exact .inr (.inl (List.mem_singleton.1 k))
   ·have := List.mem_filter.1 k
    exact .inl ⟨this.1, by simpa using this.2⟩
  ·exact .inr (.inr (e3 x k))
 refine ⟨fun x hx => ?_, fun hc x hx => ?_, fun ⟨r, hr, h1⟩ => ?_⟩
 ·rcases hm x hx with ⟨k, k2⟩ | rfl | k
  ·have := hb x k
   exact ⟨this.1, k2, (nb_rng this.1 this.2).2.1 k2⟩
  ·exact ⟨by decide, by decide, by decide⟩
  ·have hk : 0 ≤ x ∧ x < 128 := by rcases k with k | k <;> omega
   refine ⟨hk.1, hk.2, ?_⟩
   obtain ⟨n, rfl⟩ : ∃ n : Nat, x = n := ⟨x.toNat, by omega⟩
   exact okC_dig ⟨n, by omega⟩ (by
    show 48 ≤ n ∧ n ≤ 57 ∨ 97 ≤ n ∧ n ≤ 122
    rcases k with k | k <;> omega)
 ·rcases hm x hx with ⟨k, k2⟩ | rfl | k
  ·exact hc x k
  ·decide
  ·rcases k with k | k <;> omega
 ·by_cases hd : dg = []
  ·subst hd
   have h4 := e4 0
   have : k' = 0 := by simpa using e2
   subst this
   have h5 : some (eo0 (fun j => l.getD j 0) l.length) = some l := h4
   rw [he] at h5
   have h6 := Option.some.inj h5
   rw [← h6] at hr
   have := (List.mem_filter.1 hr).2
   simp at this
   omega
  ·exact ⟨eo1 (fun j => l.getD j 0) l.length ++ dg.dropLast, dg.getLast hd, by rw [e1, List.append_assoc, List.dropLast_concat_getLast], e3 _ (List.getLast_mem hd)⟩
theorem txtO_toB (o : List Int) : (txtO o).data.toList = o.map toB := txtO_list o
structure LOK (t : List UInt8) : Prop where
 pla : plaL t = true
 rgt : rgtL t = true
 low : t.map lowc = t
 uni : xnL.isPrefixOf t = true → (uL t).2 = 0
theorem uL_xn (t : List UInt8) : uL (xnL ++ t) = if (decR (mk8 t)).2 ≠ 0 then ([], (decR (mk8 t)).2) else ((uniL (decR (mk8 t)).1).1.data.toList, (uniL (decR (mk8 t)).1).2) := by
 unfold uL lf
 have h1 : (cutPreB (mk8 (xnL ++ t)) xnT).2 = true := by
  show xnL.isPrefixOf (xnL ++ t) = true
  rw [List.isPrefixOf_iff_prefix]; exact List.prefix_append _ _
 have h2 : (cutPreB (mk8 (xnL ++ t)) xnT).1 = mk8 t := by
  have h1 : Lib.hasPrefix (mk8 (xnL ++ t)).data.toList xnT.data.toList = true := h1
  unfold cutPreB
  dsimp only
  rw [Lib.trimPrefix, if_pos h1]
  rfl
 rw [uniR, h1, h2, if_neg (by decide)]
 split <;> rfl
theorem pre_ex {t : List UInt8} (h : xnL.isPrefixOf t = true) : ∃ t', t = xnL ++ t' := by
 rw [List.isPrefixOf_iff_prefix] at h
 obtain ⟨t', e⟩ := h
 exact ⟨t', e.symm⟩
theorem uniL_ok {l : List Int} (h1 : ∀ r ∈ l, badC r = false) (h2 : ∃ r ∈ l, 128 ≤ r) (h3 : l.getD 0 0 ≠ 45) (h4 : l.getD (l.length - 1) 0 ≠ 45) : uniL l = (encB l, 0) := by
 rw [uniL, bdN_len.2 h1, if_neg (by decide), byN_len.2 h2, beq_eq_false_iff_ne.2 h3, beq_eq_false_iff_ne.2 h4]
 rfl
theorem uniL_zero {l : List Int} (h : (uniL l).2 = 0) : (∀ r ∈ l, badC r = false) ∧ (∃ r ∈ l, 128 ≤ r) ∧ l.getD 0 0 ≠ 45 ∧ l.getD (l.length - 1) 0 ≠ 45 := by
 rw [uniL] at h
 cases h1 : bdN l l.length
 ·rw [h1, if_neg (by decide)] at h
  cases h2 : byN l l.length
  ·rw [h2] at h; exact absurd h (by simp)
  ·cases h3 : l.getD 0 0 == 45
   ·cases h4 : l.getD (l.length - 1) 0 == 45
    ·exact ⟨bdN_len.1 h1, byN_len.1 h2, beq_eq_false_iff_ne.1 h3, beq_eq_false_iff_ne.1 h4⟩
    ·rw [h2, h3, h4] at h; exact absurd h (by simp)
   ·rw [h2, h3] at h; exact absurd h (by simp)
 ·rw [h1, if_pos rfl] at h; exact absurd h (by decide)
theorem ascL_zero {l : List Int} (h : (ascL l).2 = 0) : (∀ r ∈ l, badC r = false) ∧ l.getD 0 0 ≠ 45 ∧ l.getD (l.length - 1) 0 ≠ 45 ∧ ∃ o, encR (fun j => l.getD j 0) l.length = (o, 0) ∧ o.length ≤ 59 ∧ (ascL l).1.data.toList = xnL ++ o.map toB := by
 rw [ascL] at h ⊢
 cases h1 : bdN l l.length
 ·rw [h1, if_neg (by decide)] at h
  rw [if_neg (by decide)]
  cases h3 : l.getD 0 0 == 45
  ·cases h4 : l.getD (l.length - 1) 0 == 45
   ·rw [h3, h4, if_neg (by decide)] at h
    rw [if_neg (by decide)]
    by_cases h5 : (encR (fun j => l.getD j 0) l.length).2 = 0
    ·rw [if_neg (by rw [h5]; simp)] at h
     rw [if_neg (by rw [h5]; simp)]
     split at h
     ·exact absurd h (by decide)
     ·rename_i h6
      rw [if_neg h6]
      have e4 : xnT.size = 4 := rfl
      rw [ByteArray.size_append, txtO_size, e4] at h6
      refine ⟨bdN_len.1 h1, beq_eq_false_iff_ne.1 h3, beq_eq_false_iff_ne.1 h4, _, Prod.ext rfl h5, (show (encR (fun j => l.getD j 0) l.length).1.length ≤ 59 by omega), ?_⟩
      dsimp only
      rw [ByteArray.data_append, Array.toList_append, txtO_toB]
      rfl
    ·rw [if_pos h5] at h; exact absurd h h5
   ·rw [h3, h4] at h; exact absurd h (by simp)
  ·rw [h3] at h; exact absurd h (by simp)
 ·rw [h1, if_pos rfl] at h; exact absurd h (by decide)
theorem ascL_ok {l o : List Int} (h1 : ∀ r ∈ l, badC r = false) (h3 : l.getD 0 0 ≠ 45) (h4 : l.getD (l.length - 1) 0 ≠ 45) (h5 : encR (fun j => l.getD j 0) l.length = (o, 0)) (h6 : o.length ≤ 59) : ascL l = (xnT ++ txtO o, 0) := by
 have e4 : xnT.size = 4 := rfl
 rw [ascL, bdN_len.2 h1, if_neg (by decide), beq_eq_false_iff_ne.2 h3, beq_eq_false_iff_ne.2 h4, if_neg (by decide), h5, if_neg (by simp), if_neg]
 rw [ByteArray.size_append, txtO_size, e4]
 show ¬ 4 + o.length > 63
 omega
theorem toB_nat' {x : Int} (h0 : 0 ≤ x) (h1 : x < 128) : ((toB x).toNat : Int) = x := toB_nat h0 (by omega)
theorem xn_LOK {l o : List Int} (hl : l.length ≤ 2000) (hr : ∀ r ∈ l, 0 ≤ r ∧ r ≤ 1114111) (h1 : ∀ r ∈ l, badC r = false) (h2 : ∃ r ∈ l, 128 ≤ r) (h3 : l.getD 0 0 ≠ 45) (h4 : l.getD (l.length - 1) 0 ≠ 45) (hc : ∀ r ∈ l, ¬ (65 ≤ r ∧ r ≤ 90)) (h5 : encR (fun j => l.getD j 0) l.length = (o, 0)) (h6 : o.length ≤ 59) : LOK (xnL ++ o.map toB) := by
 have hlo := encR_len hl hr h5
 have hE := encO (by omega) (fun r k => ⟨(hr r k).1, h1 r k⟩) h5
 obtain ⟨o', d, eo, hd⟩ := hE.last h2
 have hall : ∀ c ∈ xnL ++ o.map toB, okc c = true ∧ ¬ (65 ≤ c.toNat ∧ c.toNat ≤ 90) := fun c hc' => by
  rcases List.mem_append.1 hc' with k | k
  ·have : ∀ c ∈ xnL, okc c = true ∧ ¬ (65 ≤ c.toNat ∧ c.toNat ≤ 90) := by decide
   exact this c k
  ·obtain ⟨x, hx, rfl⟩ := List.mem_map.1 k
   obtain ⟨q1, q2, q3⟩ := hE.ok x hx
   have e := toB_nat' q1 q2
   have q4 := hE.low hc x hx
   refine ⟨?_, by omega⟩
   unfold okc
   rw [e]; exact q3
 have hlast : (xnL ++ o.map toB).getD ((xnL ++ o.map toB).length - 1) 0 = toB d := by
  rw [eo, List.map_append, ← List.append_assoc, List.getD_eq_getElem?_getD]
  simp
 have hd0 : 0 ≤ d ∧ d < 128 := by rcases hd with h | h <;> omega
 refine ⟨?_, ?_, ?_, fun _ => ?_⟩
 ·unfold plaL
  rw [List.all_eq_true]
  intro c hc'
  exact decide_eq_true (okc_rng c (hall c hc').1).1
 ·unfold rgtL
  have ea : (xnL ++ o.map toB).all okc = true := List.all_eq_true.2 fun c hc' => (hall c hc').1
  have eb : (toB d == 45) = false := by
   rw [beq_eq_false_iff_ne]
   intro e
   have := congrArg (fun c : UInt8 => (c.toNat : Int)) e
   have this : ((toB d).toNat : Int) = ((45 : UInt8).toNat : Int) := this
   rw [toB_nat' hd0.1 hd0.2] at this
   have h45 : ((45 : UInt8).toNat : Int) = 45 := rfl
   rw [h45] at this
   rcases hd with h | h <;> omega
  rw [hlast, ea, eb]
  have el : (xnL ++ o.map toB).length = 4 + o.length := by rw [List.length_append, List.length_map]; rfl
  rw [el, decide_eq_true (by omega), decide_eq_true (by omega)]
  rfl
 ·conv => rhs; rw [← List.map_id (xnL ++ o.map toB)]
  exact List.map_congr_left fun c hc' => fix_low (hall c hc').2
 ·have hD := decR_enc (by omega) (fun r k => ⟨(hr r k).1, by have := (nb_rng (hr r k).1 (h1 r k)).1; omega⟩) h5
  rw [uL_xn, show mk8 (o.map toB) = txtO o by rw [← txtO_toB, data_mk8], hD, if_neg (by simp), uniL_ok h1 h2 h3 h4]
theorem map_low_mem {t : List UInt8} (h : t.map lowc = t) : ∀ c ∈ t, lowc c = c := by
 intro c hc
 have : t.map lowc = t.map id := by rw [h, List.map_id]
 exact (List.map_inj_left.1 this) c hc
theorem map_low_low (x : List UInt8) : (x.map lowc).map lowc = x.map lowc := by
 rw [List.map_map]
 exact List.map_congr_left fun c _ => lowc_idem c
theorem aL_LOK {x : List UInt8} (hx : x.length ≤ 2000) (h : (aL x).2 = 0) : LOK (aL x).1 := by
 rw [aL_aS] at h ⊢
 have hlow := map_low_low x
 have hlen : (x.map lowc).length ≤ 2000 := by rw [List.length_map]; exact hx
 generalize x.map lowc = t at *
 rw [aS] at h ⊢
 by_cases hp : plaL t = true
 ·rw [if_pos hp] at h ⊢
  by_cases hr : rgtL t = false
  ·rw [if_pos hr] at h; exact absurd h (by decide)
  ·rw [if_neg hr] at h ⊢
   have hr : rgtL t = true := by simpa using hr
   by_cases hx : xnL.isPrefixOf t = true
   ·rw [if_pos hx] at h ⊢
    exact ⟨hp, hr, hlow, fun _ => h⟩
   ·rw [if_neg hx]
    exact ⟨hp, hr, hlow, fun k => absurd k hx⟩
 ·rw [if_neg hp] at h ⊢
  by_cases hv : validB (mk8 t) = false
  ·rw [if_pos hv] at h; exact absurd h (by decide)
  ·rw [if_neg hv] at h ⊢
   have h : (ascL (rns (mk8 t))).2 = 0 := h
   show LOK (ascL (rns (mk8 t))).1.data.toList
   rw [rns_rnL, mk8_data] at h ⊢
   have hm := rnL_mem t.length t
   have hl := rnL_len t.length t
   have hb : ∃ r ∈ rnL t.length t, 128 ≤ r := by
    by_cases e : ∃ r ∈ rnL t.length t, 128 ≤ r
    ·exact e
    ·exact absurd (rnL_pla t.length t (Nat.le_refl _) fun r hr => by
      by_cases k : r < 128
      ·exact k
      ·exact absurd ⟨r, hr, by omega⟩ e) hp
   generalize rnL t.length t = l at *
   obtain ⟨q1, q2, q3, o, q4, q5, q6⟩ := ascL_zero h
   rw [q6]
   exact xn_LOK (by omega) (fun r hr => ⟨(hm r hr).1, (hm r hr).2.1⟩) q1 hb q2 q3 (fun r hr => by
    by_cases k : r < 128
    ·obtain ⟨c, hc, e⟩ := (hm r hr).2.2 k
     have := low_fix (map_low_mem hlow c hc)
     omega
    ·omega) q4 q5
theorem LOK.asc {t : List UInt8} (h : LOK t) : aL t = (t, 0) := by
 rw [aL_aS, h.low, aS, if_pos h.pla, h.rgt, if_neg (by decide)]
 by_cases k : xnL.isPrefixOf t = true
 ·rw [if_pos k, h.uni k]
 ·rw [if_neg k]
theorem LOK.back {t : List UInt8} (h : LOK t) (hx : xnL.isPrefixOf t = true) : (uL t).2 = 0 ∧ aL (uL t).1 = (t, 0) ∧ (∀ c ∈ (uL t).1, c ≠ 46) ∧ (uL t).1 ≠ t ∧ (uL t).1 ≠ [] ∧ (uL t).1.length ≤ 2 * t.length := by
 have hz := h.uni hx
 refine ⟨hz, ?_⟩
 have hlow := h.low
 have hpla := h.pla
 have hrgt := h.rgt
 obtain ⟨t', rfl⟩ := pre_ex hx
 rw [uL_xn] at hz ⊢
 by_cases hd : (decR (mk8 t')).2 = 0
 ·rw [if_neg (by rw [hd]; simp)] at hz ⊢
  have hz : (uniL (decR (mk8 t')).1).2 = 0 := hz
  obtain ⟨f1, f2, f3⟩ := decR_facts hd
  have hlen := decR_len (mk8 t')
  generalize (decR (mk8 t')).1 = l at *
  obtain ⟨q1, q2, q3, q4⟩ := uniL_zero hz
  rw [uniL_ok q1 q2 q3 q4, encB_list]
  have hlow' : t'.map lowc = t' := by
   rw [List.map_append] at hlow
   exact (List.append_inj hlow rfl).2
  have hr0 : ∀ r ∈ l, 0 ≤ r := fun r hr => by
   rcases f1 r hr with ⟨c, hc, e⟩ | k <;> omega
  have hok : ∀ r ∈ l, okR r := fun r hr => ⟨hr0 r hr, by have := (nb_rng (hr0 r hr) (q1 r hr)).1; omega⟩
  have hrr : ∀ r ∈ l, 0 ≤ r ∧ r ≤ 1114111 := fun r hr => ⟨hr0 r hr, by have := (hok r hr).2; omega⟩
  have hcap : ∀ r ∈ l, ¬ (65 ≤ r ∧ r ≤ 90) := fun r hr => by
   rcases f1 r hr with ⟨c, hc, e⟩ | k
   ·have := low_fix (map_low_mem hlow' c hc)
    omega
   ·omega
  obtain ⟨o, ho⟩ : ∃ o, encR (fun j => l.getD j 0) l.length = (o, 0) := ⟨_, Prod.ext rfl f2⟩
  rw [ho] at f3
  have f3 : Lib.equalFold (txtO o).data.toList t' = true := f3
  have hlo := encR_len (by omega) hrr ho
  have hok2 := encR_ok (q := ⟨l.length, fun j => l.getD j 0⟩) (by show l.length ≤ 2000; omega) (fun i hi => by
   rw [show (Sq.mk l.length fun j => l.getD j 0).g i = l.getD i 0 from rfl, List.getD_eq_getElem?_getD, List.getElem?_eq_getElem hi]
   exact hrr _ (List.getElem_mem hi))
  dsimp only at hok2
  rw [ho] at hok2
  have hE := encO (by have := hok2.2; dsimp only at this; omega) (fun r k => ⟨hr0 r k, q1 r k⟩) ho
  have hol : (o.map toB).map lowc = o.map toB := by
   conv => rhs; rw [← List.map_id (o.map toB)]
   refine List.map_congr_left fun c hc => fix_low ?_
   obtain ⟨x, hx, rfl⟩ := List.mem_map.1 hc
   have e := toB_nat' (hE.ok x hx).1 (hE.ok x hx).2.1
   have := hE.low hcap x hx
   omega
  rw [txtO_toB] at f3
  have et : o.map toB = t' := eqf_low _ _ hol hlow' f3
  have h59 : o.length ≤ 59 := by
   unfold rgtL at hrgt
   simp only [Bool.and_eq_true, decide_eq_true_eq] at hrgt
   have := hrgt.1.1.1.2
   rw [List.length_append, ← et, List.length_map] at this
   have h4 : xnL.length = 4 := rfl
   omega
  obtain ⟨rb, hb1, hb2⟩ := q2
  obtain ⟨cb, hcb1, hcb2⟩ := pla_enc hok hb1 hb2
  have hnp : ¬ plaL (l.flatMap e8) = true := fun k => by
   unfold plaL at k
   have := of_decide_eq_true (List.all_eq_true.1 k cb hcb1)
   omega
  refine ⟨?_, ?_, ?_, ?_, ?_⟩
  ·show aL (l.flatMap e8) = _
   rw [aL_aS, low_enc hok hcap, aS, if_neg hnp, validB_enc hok, if_neg (by decide), aN, rns_enc hok, ascL_ok q1 q3 q4 ho h59]
   dsimp only
   rw [ByteArray.data_append, Array.toList_append, txtO_toB, et]
   rfl
  ·show ∀ c ∈ l.flatMap e8, c ≠ 46
   exact dot_enc hok fun r hr => by
    by_cases k : r < 128
    ·have h1 := (nb_rng (hr0 r hr) (q1 r hr)).2.1 k
     intro e
     rw [e] at h1
     exact absurd h1 (by decide)
    ·omega
  ·show l.flatMap e8 ≠ _
   intro e
   rw [e] at hnp
   exact hnp hpla
  ·show l.flatMap e8 ≠ []
   intro e
   rw [e] at hcb1; simp at hcb1
  ·show (l.flatMap e8).length ≤ _
   have h2 : ∀ l : List Int, (∀ r ∈ l, okR r) → (l.flatMap e8).length ≤ 2 * l.length := by
    intro l
    induction l with
    | nil => intro _; simp
    | cons r l ih =>
     intro hk
     have i1 := ih fun x hx => hk x (by simp [hx])
     have i2 : (e8 r).length ≤ 2 := by
      have := hk r (by simp)
      by_cases e : r < 128
      ·rw [e8_lt this.1 e]; simp
      ·rw [e8_two (by omega) this.2]; simp
     rw [List.flatMap_cons, List.length_append, List.length_cons]
     omega
   have := h2 l hok
   rw [List.length_append, ← et, List.length_map]
   omega
 ·rw [if_pos hd] at hz; exact absurd hz hd
theorem LOK.len {t : List UInt8} (h : LOK t) : 0 < t.length ∧ t.length ≤ 63 := by
 have := h.rgt
 unfold rgtL at this
 simp only [Bool.and_eq_true, decide_eq_true_eq] at this
 exact ⟨this.1.1.1.1, this.1.1.1.2⟩
theorem LOK.okc {t : List UInt8} (h : LOK t) : ∀ c ∈ t, Go.Proofs.YtkjcoehblekpdaaGreatDoorAv.okc c = true := by
 have := h.rgt
 unfold rgtL at this
 rw [Bool.and_eq_true] at this
 exact List.all_eq_true.1 this.2
theorem LOK.dot {t : List UInt8} (h : LOK t) : ∀ c ∈ t, c ≠ 46 := fun c hc e => by
 have := (okc_rng c (h.okc c hc)).2
 rw [e] at this
 exact this rfl
end Go.Proofs.YtkjcoehblekpdaaGreatDoorAv
namespace Go.Proofs.YtkjcoehblekpdaaGreatDoorAv
open Go Go.RowKit
theorem LL_join {l : List (List UInt8)} (hl : l ≠ []) (h : ∀ x ∈ l, ∀ c ∈ x, c ≠ 46) (h2 : l.getLast? ≠ some []) : LL (join46 l) = l := by
 have hs := split_join hl h
 rw [LL_no, hs]
 intro t ht
 rw [ht, split1_app] at hs
 apply h2
 rw [← hs]
 show (split1 46 t ++ [[]]).getLast? = _
 simp
theorem LOK.ne {t : List UInt8} (h : LOK t) : t ≠ [] := List.length_pos_iff.1 h.len.1
theorem last_mem {α : Type} {l : List α} {x : α} (h : l.getLast? = some x) : x ∈ l := List.mem_of_getLast? h
theorem LL_LOK {l : List (List UInt8)} (hl : l ≠ []) (h : ∀ x ∈ l, LOK x) : LL (join46 l) = l ∧ split1 46 (join46 l) = l := by
 refine ⟨LL_join hl (fun x hx => (h x hx).dot) fun e => (h _ (last_mem e)).ne rfl, split_join hl fun x hx => (h x hx).dot⟩
theorem tA_join {l : List (List UInt8)} (hl : l ≠ []) (h : ∀ x ∈ l, LOK x) (hs : (join46 l).length ≤ 253) : tA (join46 l) = (join46 l, 0) := by
 have hE : eL l = 0 := ee_zero.2 fun x hx => by rw [(h x hx).asc]
 have hJ : jL l = join46 l := by
  unfold jL
  congr 1
  conv => rhs; rw [← List.map_id l]
  exact List.map_congr_left fun x hx => by rw [(h x hx).asc]; rfl
 rw [tA_tL (by omega), (LL_LOK hl h).1, tL_ok hE (by rw [hJ]; omega), hJ]
theorem LL_each (s : List UInt8) : ∀ x ∈ LL s, x.length ≤ s.length := by
 intro x hx
 have h1 := split1_each 46 _ x hx
 have h2 : (trim46 s).length ≤ s.length := by
  unfold trim46 Lib.trimSuffix
  split
  ·rw [List.length_take]; omega
  ·exact Nat.le_refl _
 omega
theorem tA_zero {s : List UInt8} (h : (tA s).2 = 0) : ∃ l, l ≠ [] ∧ (∀ x ∈ l, LOK x) ∧ (tA s).1 = join46 l ∧ (join46 l).length ≤ 253 := by
 by_cases hs : s.length ≤ 1012
 ·rw [tA_tL hs] at h ⊢
  obtain ⟨h1, h2, h3⟩ := tL_zero h
  refine ⟨(LL s).map fun x => (aL x).1, by simp [LL_ne], fun x hx => ?_, h3, by have : jL (LL s) = join46 ((LL s).map fun x => (aL x).1) := rfl; rw [← this]; omega⟩
  obtain ⟨y, hy, rfl⟩ := List.mem_map.1 hx
  exact aL_LOK (by have := LL_each s y hy; omega) (ee_zero.1 h1 y hy)
 ·rw [tA, if_pos (by omega)] at h; exact absurd h (by decide)
theorem map_getD {l : List (List UInt8)} {i : Nat} (h : i < l.length) : (l.map mk8).getD i ⟨#[]⟩ = mk8 (l.getD i []) := by
 rw [List.getD_eq_getElem?_getD, List.getElem?_map, List.getElem?_eq_getElem h, List.getD_eq_getElem?_getD, List.getElem?_eq_getElem h]
 rfl
theorem getD_mem {α : Type} {l : List α} {i : Nat} {d : α} (h : i < l.length) : l.getD i d ∈ l := by
 rw [List.getD_eq_getElem?_getD, List.getElem?_eq_getElem h]; exact List.getElem_mem h
end Go.Proofs.YtkjcoehblekpdaaGreatDoorAv
namespace Go.Proofs.YtkjcoehblekpdaaGreatDoorAv
open Go Go.RowKit
def cx6 : Cx := { cx0 with C := [(9, hfitC), (10, ligC), (11, prsC2), (18, ptC)] }
theorem cx6_ok : cx6.ok Tryz.prog := (((cx0_ok.addC pt_ok).addC prs_ok2).addC lig_ok).addC hfit_ok
def bkS (s : ByteArray) : ByteArray := prtN (getH (prsH s)) (lenH (prsH s))
def bkI (s : ByteArray) : Inv where
 σ := IL
 S := fun x => ⟨[(3, hostsL (prsH s)), (4, hostsL (prsH (bkS s))), (28, XI (lenH (prsH s))), (29, XI x.i)], [], 0, false, []⟩
 inv := fun x => x.i ≤ lenH (prsH s)
 μ := fun x => lenH (prsH s) - x.i
def bkJ (s : ByteArray) (p : IL) : Inv where
 σ := IL
 S := fun x => ⟨[(3, hostsL (prsH s)), (4, hostsL (prsH (bkS s))), (5, XI p.i), (28, XI (lenH (prsH s))), (29, XI p.i), (72, XI (getH (prsH s) p.i).q.n), (73, XI x.i)], [], 0, false, []⟩
 inv := fun x => x.i ≤ (getH (prsH s) p.i).q.n ∧ p.i < lenH (prsH s)
 μ := fun x => (getH (prsH s) p.i).q.n - x.i
def bkE (s : ByteArray) : Env := { loops := [(0, bkI s)], loopsP := [(2, ⟨IL, bkJ s⟩)] }
def bkV_a (s : ByteArray) (x : IL) :=
 ((getH (prsH s) (↑x.i : Int).toNat).a.x0 == (getH (prsH (bkS s)) (↑x.i : Int).toNat).a.x0 && ((getH (prsH s) (↑x.i : Int).toNat).a.x1 == (getH (prsH (bkS s)) (↑x.i : Int).toNat).a.x1 && ((getH (prsH s) (↑x.i : Int).toNat).a.x2 == (getH (prsH (bkS s)) (↑x.i : Int).toNat).a.x2 && ((getH (prsH s) (↑x.i : Int).toNat).a.x3 == (getH (prsH (bkS s)) (↑x.i : Int).toNat).a.x3 && ((getH (prsH s) (↑x.i : Int).toNat).a.x4 == (getH (prsH (bkS s)) (↑x.i : Int).toNat).a.x4 && ((getH (prsH s) (↑x.i : Int).toNat).a.x5 == (getH (prsH (bkS s)) (↑x.i : Int).toNat).a.x5 && ((getH (prsH s) (↑x.i : Int).toNat).a.x6 == (getH (prsH (bkS s)) (↑x.i : Int).toNat).a.x6 && ((getH (prsH s) (↑x.i : Int).toNat).a.x7 == (getH (prsH (bkS s)) (↑x.i : Int).toNat).a.x7 && ((getH (prsH s) (↑x.i : Int).toNat).a.x8 == (getH (prsH (bkS s)) (↑x.i : Int).toNat).a.x8 && ((getH (prsH s) (↑x.i : Int).toNat).a.x9 == (getH (prsH (bkS s)) (↑x.i : Int).toNat).a.x9 && ((getH (prsH s) (↑x.i : Int).toNat).a.x10 == (getH (prsH (bkS s)) (↑x.i : Int).toNat).a.x10 && ((getH (prsH s) (↑x.i : Int).toNat).a.x11 == (getH (prsH (bkS s)) (↑x.i : Int).toNat).a.x11 && ((getH (prsH s) (↑x.i : Int).toNat).a.x12 == (getH (prsH (bkS s)) (↑x.i : Int).toNat).a.x12 && ((getH (prsH s) (↑x.i : Int).toNat).a.x13 == (getH (prsH (bkS s)) (↑x.i : Int).toNat).a.x13 && ((getH (prsH s) (↑x.i : Int).toNat).a.x14 == (getH (prsH (bkS s)) (↑x.i : Int).toNat).a.x14 && ((getH (prsH s) (↑x.i : Int).toNat).a.x15 == (getH (prsH (bkS s)) (↑x.i : Int).toNat).a.x15 && true))))))))))))))))
def bkV_b (s : ByteArray) (x : IL) :=
 (!(bkV_a s x) || (↑(getH (prsH s) (↑x.i : Int).toNat).q.n : Int) != (↑(getH (prsH (bkS s)) (↑x.i : Int).toNat).q.n : Int))
def bkV_c (s : ByteArray) :=
 ((XV.fz (lenH (prsH s)) 17 fun (i : Nat) => (hostX (getH (prsH s) i))) = XV.fz (lenH (prsH s)) 17 fun (i : Nat) => (hostX (getH (prsH s) i)))
def bkV_d (s : ByteArray) :=
 ((XV.fz (lenH (prsH (bkS s))) 17 fun (i : Nat) => (hostX (getH (prsH (bkS s)) i))) = XV.fz (lenH (prsH (bkS s))) 17 fun (i : Nat) => (hostX (getH (prsH (bkS s)) i)))
def bkV (s : ByteArray) : Prop :=
 ((!true) = true → false = true) ∧ ((!true) = false → ((!decide ((↑s.size : Int) ≤ (2000 : Int))) = true → true = true) ∧ ((!decide ((↑s.size : Int) ≤ (2000 : Int))) = false → s.size ≤ (1000000000 : Nat) ∧ (∀ (i : Nat), ((linesS s).getD i ⟨#[]⟩).size ≤ (1000000 : Nat)) ∧ (∀ (i : Nat), i < lenH (prsH s) → (hostX (getH (prsH s) i)) = (hostX (getH (prsH s) i))) ∧ lenH (prsH s) ≤ (10000 : Nat) ∧ (∀ (i : Nat), i < lenH (prsH s) → okH (getH (prsH s) i)) ∧ (prtN (getH (prsH s)) (lenH (prsH s))).size ≤ (1000000000 : Nat) ∧ (∀ (i : Nat), ((linesS (prtN (getH (prsH s)) (lenH (prsH s)))).getD i ⟨#[]⟩).size ≤ (1000000 : Nat)) ∧ (((↑(lenH (prsH s)) : Int) != (↑(lenH (prsH (prtN (getH (prsH s)) (lenH (prsH s))))) : Int) || decide ((↑(lenH (prsH s)) : Int) > (64 : Int))) = true → false = true) ∧ (((↑(lenH (prsH s)) : Int) != (↑(lenH (prsH (prtN (getH (prsH s)) (lenH (prsH s))))) : Int) || decide ((↑(lenH (prsH s)) : Int) > (64 : Int))) = false → (∃ (x : (bkI s).σ), x.i.le (lenH (prsH s)) ∧ true = true ∧ (bkV_c s) ∧ ((XV.fz (lenH (prsH (prtN (getH (prsH s)) (lenH (prsH s))))) 17 fun (i : Nat) => (hostX (getH (prsH (prtN (getH (prsH s)) (lenH (prsH s)))) i))) = XV.fz (lenH (prsH (bkS s))) 17 fun (i : Nat) => (hostX (getH (prsH (bkS s)) i))) ∧ (↑(lenH (prsH s)) : Int) = (↑(lenH (prsH s)) : Int) ∧ (0 : Int) = (↑x.i : Int) ∧ True) ∧ ∀ (x : IL), x.i.le (lenH (prsH s)) → (decide ((↑x.i : Int) < (↑(lenH (prsH s)) : Int)) = true → (0 : Int) ≤ (↑x.i : Int) ∧ (↑x.i : Int) < (↑(lenH (prsH s)) : Int) ∧ (0 : Int) ≤ (↑x.i : Int) ∧ (↑x.i : Int) < (↑(lenH (prsH (bkS s))) : Int) ∧ ((!!(bkV_a s x)) = true → (0 : Int) ≤ (↑x.i : Int)) ∧ ((!!(bkV_a s x)) = true → (↑x.i : Int) < (↑(lenH (prsH s)) : Int)) ∧ ((!!(bkV_a s x)) = true → (0 : Int) ≤ (↑x.i : Int)) ∧ ((!!(bkV_a s x)) = true → (↑x.i : Int) < (↑(lenH (prsH (bkS s))) : Int)) ∧ ((!(bkV_b s x)) = true → (!(bkV_b s x)) = true) ∧ ((!(bkV_b s x)) = true → (!(bkV_b s x)) = true) ∧ ((!(bkV_b s x)) = true → (0 : Int) ≤ (↑x.i : Int)) ∧ ((!(bkV_b s x)) = true → (↑x.i : Int) < (↑(lenH (prsH s)) : Int)) ∧ ((!(bkV_b s x)) = true → (!(bkV_b s x)) = true) ∧ ((!(bkV_b s x)) = true → (!(bkV_b s x)) = true) ∧ ((!(bkV_b s x)) = true → (!(bkV_b s x)) = true) ∧ ((!(bkV_b s x)) = true → (!(bkV_b s x)) = true) ∧ ((bkV_b s x) = false → (!(bkV_b s x)) = true) ∧ ((!(bkV_a s x) || (↑(getH (prsH s) (↑x.i : Int).toNat).q.n : Int) != (↑(getH (prsH (bkS s)) (↑x.i : Int).toNat).q.n : Int) || (↑(getH (prsH s) (↑x.i : Int).toNat).q.n : Int) == (0 : Int)) = true → false = true) ∧ ((!(bkV_a s x) || (↑(getH (prsH s) (↑x.i : Int).toNat).q.n : Int) != (↑(getH (prsH (bkS s)) (↑x.i : Int).toNat).q.n : Int) || (↑(getH (prsH s) (↑x.i : Int).toNat).q.n : Int) == (0 : Int)) = false → (0 : Int) ≤ (↑x.i : Int) ∧ (↑x.i : Int) < (↑(lenH (prsH s)) : Int) ∧ ∃ (p : { α := IL, J := bkJ s : InvP }.α), (∃ (x_1 : ({ α := IL, J := bkJ s : InvP }.J p).σ), (x_1.i ≤ (getH (prsH s) p.i).q.n ∧ p.i < lenH (prsH s)) ∧ true = true ∧ (bkV_c s) ∧ (bkV_d s) ∧ (↑x.i : Int) = (↑p.i : Int) ∧ (↑(lenH (prsH s)) : Int) = (↑(lenH (prsH s)) : Int) ∧ (↑x.i : Int) = (↑p.i : Int) ∧ (↑(getH (prsH s) (↑x.i : Int).toNat).q.n : Int) = (↑(getH (prsH s) p.i).q.n : Int) ∧ (0 : Int) = (↑x_1.i : Int) ∧ True) ∧ ∀ (x_1 : IL), x_1.i ≤ (getH (prsH s) p.i).q.n ∧ p.i < lenH (prsH s) → (decide ((↑x_1.i : Int) < (↑(getH (prsH s) p.i).q.n : Int)) = true → (0 : Int) ≤ (↑p.i : Int) ∧ (↑p.i : Int) < (↑(lenH (prsH s)) : Int) ∧ (0 : Int) ≤ (↑x_1.i : Int) ∧ (↑x_1.i : Int) < (↑(getH (prsH s) (↑p.i : Int).toNat).q.n : Int) ∧ (0 : Int) ≤ (↑p.i : Int) ∧ (↑p.i : Int) < (↑(lenH (prsH (bkS s))) : Int) ∧ (0 : Int) ≤ (↑x_1.i : Int) ∧ (↑x_1.i : Int) < (↑(getH (prsH (bkS s)) (↑p.i : Int).toNat).q.n : Int) ∧ ((!decide ((getH (prsH s) (↑p.i : Int).toNat).q.g (↑x_1.i : Int).toNat = (getH (prsH (bkS s)) (↑p.i : Int).toNat).q.g (↑x_1.i : Int).toNat)) = true → false = true) ∧ ((!decide ((getH (prsH s) (↑p.i : Int).toNat).q.g (↑x_1.i : Int).toNat = (getH (prsH (bkS s)) (↑p.i : Int).toNat).q.g (↑x_1.i : Int).toNat)) = false → in64 ((↑x_1.i : Int) + (1 : Int)) ∧ ∃ (x' : ({ α := IL, J := bkJ s : InvP }.J p).σ), (x'.i ≤ (getH (prsH s) p.i).q.n ∧ p.i < lenH (prsH s)) ∧ (getH (prsH s) p.i).q.n - x'.i < (getH (prsH s) p.i).q.n - x_1.i ∧ true = true ∧ (bkV_c s) ∧ (bkV_d s) ∧ (↑p.i : Int) = (↑p.i : Int) ∧ (↑(lenH (prsH s)) : Int) = (↑(lenH (prsH s)) : Int) ∧ (↑p.i : Int) = (↑p.i : Int) ∧ (↑(getH (prsH s) p.i).q.n : Int) = (↑(getH (prsH s) p.i).q.n : Int) ∧ (↑x_1.i : Int) + (1 : Int) = (↑x'.i : Int) ∧ True)) ∧ (decide ((↑x_1.i : Int) < (↑(getH (prsH s) p.i).q.n : Int)) = false → in64 ((↑p.i : Int) + (1 : Int)) ∧ ∃ (x' : (bkI s).σ), x'.i.le (lenH (prsH s)) ∧ lenH (prsH s) - x'.i < lenH (prsH s) - x.i ∧ true = true ∧ (bkV_c s) ∧ (bkV_d s) ∧ (↑(lenH (prsH s)) : Int) = (↑(lenH (prsH s)) : Int) ∧ (↑p.i : Int) + (1 : Int) = (↑x'.i : Int) ∧ True))) ∧ (decide ((↑x.i : Int) < (↑(lenH (prsH s)) : Int)) = false → true = true))))
theorem bkV_eq (s : ByteArray) : bkV s = (funC cx6 Tryz.f8 (mkSc (bkE s) (bodyOf Tryz.f8)) [XT s] (XB true)) := by kernel_rfl
def cln (l : List UInt8) : Prop := ∀ c ∈ l, c ≠ 32 ∧ c ≠ 9 ∧ c ≠ 10 ∧ c ≠ 35
theorem okc_cln : ∀ n : Fin 256, okC n.val = true → n.val ≠ 32 ∧ n.val ≠ 9 ∧ n.val ≠ 10 ∧ n.val ≠ 35 := by decide +kernel
theorem join46_mem : ∀ (l : List (List UInt8)) (c : UInt8), c ∈ join46 l → c = 46 ∨ ∃ y ∈ l, c ∈ y
 | [], c, h => by cases h
 | [x], c, h => .inr ⟨x, .head _, h⟩
 | x :: y :: r, c, h => by
  rw [join46] at h
  rcases List.mem_append.1 h with h | h
  ·exact .inr ⟨x, .head _, h⟩
  ·rcases List.mem_cons.1 h with h | h
   ·exact .inl h
   ·rcases join46_mem (y :: r) c h with h | ⟨z, hz, hc⟩
    ·exact .inl h
    ·exact .inr ⟨z, .tail _ hz, hc⟩
structure Out (n : ByteArray) : Prop where
 fix : toA n = (n, 0)
 le : n.size ≤ 253
 ne : n.data.toList ≠ []
 cl : cln n.data.toList
theorem out_name {x : ByteArray} (h : (toA x).2 = 0) : Out (toA x).1 := by
 rw [toA_tA] at h ⊢
 have h : (tA x.data.toList).2 = 0 := h
 obtain ⟨l, h1, h2, h3, h4⟩ := tA_zero h
 show Out (mk8 (tA x.data.toList).1)
 rw [h3]
 refine ⟨?_, h4, ?_, fun c hc => ?_⟩
 ·rw [toA_tA, mk8_data, tA_join h1 h2 h4]
 ·show join46 l ≠ []
  cases l with
  | nil => exact absurd rfl h1
  | cons y r =>
   have := (h2 y (.head _)).ne
   cases r with
   | nil => exact this
   | cons z r => rw [join46]; simp
 ·have hc : c ∈ join46 l := hc
  rcases join46_mem l c hc with h | ⟨y, hy, hcy⟩
  ·rw [h]; decide
  ·have := (h2 y hy).okc c hcy
   have k := okc_cln ⟨c.toNat, c.toNat_lt⟩ this
   exact ⟨fun e => k.1 (by rw [e]; rfl), fun e => k.2.1 (by rw [e]; rfl), fun e => k.2.2.1 (by rw [e]; rfl), fun e => k.2.2.2 (by rw [e]; rfl)⟩
theorem nmT_app (g : Nat → ByteArray) (t u : ByteArray) : ∀ j, (nmT g (t ++ u) j).data.toList = t.data.toList ++ (nmT g u j).data.toList
 | 0 => by rw [nmT, nmT, app_dt]
 | j + 1 => by
  have e1 : nmT g (t ++ u) (j + 1) = nmT g (t ++ u) j ++ (⟨#[32]⟩ ++ g j) := rfl
  have e2 : nmT g u (j + 1) = nmT g u j ++ (⟨#[32]⟩ ++ g j) := rfl
  rw [e1, e2, app_dt, nmT_app g t u j, app_dt (nmT g u j), List.append_assoc]
theorem nmT_split (g : Nat → ByteArray) (t : ByteArray) (ht : (32 : UInt8) ∉ t.data.toList) (n : Nat) (hg : ∀ i, i < n → (32 : UInt8) ∉ (g i).data.toList) : ∀ j, j ≤ n → split1 32 (nmT g t j).data.toList = t.data.toList :: (List.range j).map fun i => (g i).data.toList
 | 0, _ => sp_no 32 _ ht
 | j + 1, h => by
  rw [nmT, app_dt, app_dt, show (⟨#[32]⟩ : ByteArray).data.toList ++ (g j).data.toList = 32 :: (g j).data.toList from rfl, sp_appC, nmT_split g t ht n hg j (by omega), sp_no 32 _ (hg j (by omega)), List.range_succ, List.map_append]
  rfl
theorem nmT_no (c : UInt8) (hc : c ≠ 32) (g : Nat → ByteArray) (t : ByteArray) (ht : c ∉ t.data.toList) (n : Nat) (hg : ∀ i, i < n → c ∉ (g i).data.toList) : ∀ j, j ≤ n → c ∉ (nmT g t j).data.toList
 | 0, _ => ht
 | j + 1, h => by
  rw [nmT, app_dt, app_dt]
  intro k
  rcases List.mem_append.1 k with k | k
  ·exact nmT_no c hc g t ht n hg j (by omega) k
  ·rcases List.mem_cons.1 k with k | k
   ·exact hc k
   ·exact hg j (by omega) k
theorem cut1_no (l : List UInt8) (h : (35 : UInt8) ∉ l) : (cut1 35 l).1 = l := by
 have := cut1_take l l.length (fun j hj e => h (by rw [← e, List.getD_eq_getElem?_getD, List.getElem?_eq_getElem hj]; exact List.getElem_mem hj)) (Nat.le_refl _) (.inl rfl)
 rw [List.take_length] at this
 exact this
theorem repl1_no (n : List UInt8) : ∀ l : List UInt8, (9 : UInt8) ∉ l → repl1 9 n l = l
 | [], _ => rfl
 | b :: l, h => by
  have := repl1_no n l (fun k => h (.tail _ k))
  unfold repl1 at this ⊢
  rw [List.flatMap_cons, this, if_neg (fun e => h (by rw [e]; exact .head _))]
  rfl
theorem words_line (g : Nat → ByteArray) (t : ByteArray) (n : Nat) (ht : cln t.data.toList) (htn : t.data.toList ≠ []) (hg : ∀ i, i < n → Out (g i)) : words (mk8 (nmT g t n).data.toList) = t :: (List.range n).map g := by
 have no : ∀ c : UInt8, (c = 32 ∨ c = 9 ∨ c = 10 ∨ c = 35) → c ∉ t.data.toList ∧ ∀ i, i < n → c ∉ (g i).data.toList := fun c hc => by
  have q : ∀ l, cln l → c ∉ l := fun l hl k => by
   have := hl c k
   rcases hc with rfl | rfl | rfl | rfl
   ·exact this.1 rfl
   ·exact this.2.1 rfl
   ·exact this.2.2.1 rfl
   ·exact this.2.2.2 rfl
  exact ⟨q _ ht, fun i hi => q _ (hg i hi).cl⟩
 rw [words_one, mk8_data, cut1_no _ (nmT_no 35 (by decide) g t (no 35 (by simp)).1 n (no 35 (by simp)).2 n (Nat.le_refl _)), repl1_no _ _ (nmT_no 9 (by decide) g t (no 9 (by simp)).1 n (no 9 (by simp)).2 n (Nat.le_refl _)), nmT_split g t (no 32 (by simp)).1 n (no 32 (by simp)).2 n (Nat.le_refl _)]
 have ne : ∀ b : ByteArray, b.data.toList ≠ [] → isNE b = true := fun b hb => by
  unfold isNE
  rw [decide_eq_false (fun e => hb (by rw [e]))]
  rfl
 rw [List.map_cons, data_mk8, List.filter_cons, if_pos (ne t htn), List.map_map]
 congr 1
 have e : (mk8 ∘ fun i => (g i).data.toList) = g := by funext i; exact data_mk8 _
 rw [e, List.filter_eq_self]
 intro b hb
 obtain ⟨i, hi, rfl⟩ := List.mem_map.1 hb
 exact ne _ (hg i (List.mem_range.1 hi)).ne
theorem prtN_split (g : Nat → Hst) (n : Nat) (h : ∀ i, i < n → cln (prn (g i).a.f).data.toList ∧ ∀ k, k < (g i).q.n → Out ((g i).q.g k)) : ∀ i, i ≤ n → split1 10 (prtN g i).data.toList = ((List.range i).map fun j => (nmT (g j).q.g (prn (g j).a.f) (g j).q.n).data.toList) ++ [[]]
 | 0, _ => rfl
 | i + 1, hi => by
  obtain ⟨h1, h2⟩ := h i (by omega)
  have ih := prtN_split g n h i (by omega)
  rw [prtN, lnT, app_dt, nmT_app, List.append_assoc, show (⟨#[10]⟩ : ByteArray).data.toList = [10] from rfl,
   sp_line 10 _ _ _ (nmT_no 10 (by decide) _ _ (fun k => (h1 10 k).2.2.1 rfl) _ (fun k hk q => ((h2 k hk).cl 10 q).2.2.1 rfl) _ (Nat.le_refl _)) ih, List.range_succ, List.map_append]
  rfl
structure Rd2 (h : Hst) : Prop where
 num : parN (prn h.a.f) = 0
 adr : mk16 (parA (prn h.a.f)) = h.a
 cl : cln (prn h.a.f).data.toList
 ne : (prn h.a.f).data.toList ≠ []
 one : 1 ≤ h.q.n
 out : ∀ k, k < h.q.n → Out (h.q.g k)
theorem split1_cl (c : UInt8) : ∀ (l : List UInt8), ∀ x ∈ split1 c l, c ∉ x ∧ ∀ b ∈ x, b ∈ l
 | [], x, h => by
  obtain rfl := List.mem_singleton.1 h
  exact ⟨List.not_mem_nil, fun b hb => by cases hb⟩
 | b :: l, x, h => by
  by_cases e : b = c
  ·rw [e, sp_hd] at h
   rcases List.mem_cons.1 h with rfl | h
   ·exact ⟨List.not_mem_nil, fun b hb => by cases hb⟩
   ·obtain ⟨h1, h2⟩ := split1_cl c l x h
    exact ⟨h1, fun b hb => .tail _ (h2 b hb)⟩
  ·cases hs : split1 c l with
   | nil => exact absurd hs (split1_ne c l)
   | cons y t =>
    have ih := split1_cl c l
    rw [hs] at ih
    rw [sp_tl e hs] at h
    rcases List.mem_cons.1 h with rfl | h
    ·obtain ⟨h1, h2⟩ := ih y (.head _)
     refine ⟨fun k => ?_, fun d hd => ?_⟩
     ·rcases List.mem_cons.1 k with k | k
      ·exact e k.symm
      ·exact h1 k
     ·rcases List.mem_cons.1 hd with rfl | hd
      ·exact .head _
      ·exact .tail _ (h2 d hd)
    ·obtain ⟨h1, h2⟩ := ih x (.tail _ h)
     exact ⟨h1, fun b hb => .tail _ (h2 b hb)⟩
theorem cut1_cl : ∀ (l : List UInt8), (35 : UInt8) ∉ (cut1 35 l).1 ∧ ∀ b ∈ (cut1 35 l).1, b ∈ l
 | [] => ⟨List.not_mem_nil, fun b hb => by cases hb⟩
 | b :: l => by
  rw [cut1]
  by_cases e : b = 35
  ·rw [if_pos e]
   exact ⟨List.not_mem_nil, fun b hb => by cases hb⟩
  ·rw [if_neg e]
   obtain ⟨h1, h2⟩ := cut1_cl l
   refine ⟨fun k => ?_, fun d hd => ?_⟩
   ·rcases List.mem_cons.1 k with k | k
    ·exact e k.symm
    ·exact h1 k
   ·rcases List.mem_cons.1 hd with rfl | hd
    ·exact .head _
    ·exact .tail _ (h2 d hd)
theorem repl1_cl (l : List UInt8) : (9 : UInt8) ∉ repl1 9 [32] l ∧ ∀ b ∈ repl1 9 [32] l, b = 32 ∨ b ∈ l := by
 unfold repl1
 constructor
 ·intro k
  obtain ⟨b, -, hb⟩ := List.mem_flatMap.1 k
  split at hb
  ·exact absurd (List.mem_singleton.1 hb) (by decide)
  ·rename_i h9
   exact h9 (List.mem_singleton.1 hb).symm
 ·intro b k
  obtain ⟨d, hd, hb⟩ := List.mem_flatMap.1 k
  split at hb
  ·exact .inl (List.mem_singleton.1 hb)
  ·obtain rfl := List.mem_singleton.1 hb
   exact .inr hd
theorem words_cl (s : ByteArray) (hs : (10 : UInt8) ∉ s.data.toList) : ∀ x ∈ words s, cln x.data.toList ∧ x.data.toList ≠ [] := fun x hx => by
 rw [words_one] at hx
 obtain ⟨h1, h2⟩ := List.mem_filter.1 hx
 obtain ⟨y, hy, rfl⟩ := List.mem_map.1 h1
 obtain ⟨k1, k2⟩ := split1_cl 32 _ y hy
 obtain ⟨c1, c2⟩ := cut1_cl s.data.toList
 obtain ⟨r1, r2⟩ := repl1_cl (cut1 35 s.data.toList).1
 refine ⟨fun c hc => ?_, fun e => ?_⟩
 ·have hc : c ∈ y := hc
  refine ⟨fun e => k1 (e ▸ hc), fun e => r1 (e ▸ k2 c hc), fun e => ?_, fun e => ?_⟩
  ·rcases r2 c (k2 c hc) with q | q
   ·rw [q] at e; exact absurd e (by decide)
   ·exact hs (e ▸ c2 c q)
  ·rcases r2 c (k2 c hc) with q | q
   ·rw [q] at e; exact absurd e (by decide)
   ·exact c1 (e ▸ q)
 ·have e : y = [] := e
  rw [e] at h2
  exact absurd h2 (by decide)
theorem par_of {w : ByteArray} (h : parN w = 0) : prn (mk16 (parA w)).f = w ∧ parN w = 0 := by
 have hk : parOk w = true := by
  cases e : parOk w with
  | true => rfl
  | false =>
   rw [parN, if_neg (by rw [e]; decide)] at h
   exact absurd h (by decide)
 refine ⟨?_, h⟩
 show prn (fun i => [parA w 0, parA w 1, parA w 2, parA w 3, parA w 4, parA w 5, parA w 6, parA w 7, parA w 8, parA w 9, parA w 10, parA w 11, parA w 12, parA w 13, parA w 14, parA w 15].getD i 0) = w
 rw [prn_l, parA, if_pos hk]
 unfold parOk at hk
 rw [Bool.and_eq_true] at hk
 exact of_decide_eq_true hk.2
theorem rd2 (w : List ByteArray) (h : lnOk w = true) (hw : ∀ x ∈ w, cln x.data.toList ∧ x.data.toList ≠ []) : Rd2 (lnH w) := by
 unfold lnOk at h
 rw [Bool.and_eq_true, Bool.and_eq_true, decide_eq_true_eq, decide_eq_true_eq] at h
 obtain ⟨h1, h2, h3⟩ := h
 have e : (lnH w).q.n = w.length - 1 := rfl
 obtain ⟨p1, p2⟩ := par_of h2
 have p1 : prn (lnH w).a.f = w.getD 0 ⟨#[]⟩ := p1
 have hm : w.getD 0 ⟨#[]⟩ ∈ w := by
  rw [List.getD_eq_getElem?_getD, List.getElem?_eq_getElem (by omega)]
  exact List.getElem_mem _
 refine ⟨by rw [p1]; exact h2, by rw [p1]; rfl, by rw [p1]; exact (hw _ hm).1, by rw [p1]; exact (hw _ hm).2, by rw [e]; omega, fun k hk => ?_⟩
 rw [e] at hk
 have h4 := oksN_le _ _ (k + 1) (by omega) h3
 rw [oksN, Bool.and_eq_true, decide_eq_true_eq] at h4
 exact out_name h4.2
theorem prsH_rd2 (s : ByteArray) (i : Nat) (h : i < lenH (prsH s)) : Rd2 (getH (prsH s) i) := by
 obtain ⟨j, hj, h1, e⟩ := prsN_mem _ _ _ (getH_mem h)
 have e : getH (prsH s) i = lnH (words ((linesS s).getD j ⟨#[]⟩)) := e
 rw [e]
 refine rd2 _ h1 (words_cl _ ?_)
 have hj : j < (linesS s).length := hj
 unfold linesS at hj ⊢
 rw [splitS_one] at hj ⊢
 rw [List.length_map] at hj
 rw [map_getD hj, mk8_data]
 exact (split1_cl 10 _ _ (getD_mem hj)).1
theorem prsH_rd (s : ByteArray) (hs : s.size ≤ 2000) (i : Nat) (h : i < lenH (prsH s)) : okH (getH (prsH s) i) := by
 have h1 := prsH_at s i h
 have h2 := prsH_rd2 s i h
 exact ⟨h1.b, by have := h1.le; omega, fun k hk => by have := (h2.out k hk).le; omega⟩
def wdB (h : Hst) : List ByteArray := prn h.a.f :: (List.range h.q.n).map h.q.g
theorem wdB_get (h : Hst) (k : Nat) (hk : k < h.q.n) : (wdB h).getD (k + 1) ⟨#[]⟩ = h.q.g k := by
 unfold wdB
 rw [List.getD_cons_succ, List.getD_eq_getElem?_getD, List.getElem?_map, List.getElem?_range hk]
 rfl
theorem wdB_oks {h : Hst} (hh : Rd2 h) : ∀ m, m ≤ h.q.n → oksN (wdB h) m = true
 | 0, _ => rfl
 | m + 1, hm => by
  rw [oksN, wdB_oks hh m (by omega), wdB_get h m (by omega), (hh.out m (by omega)).fix]
  rfl
theorem wdB_len (h : Hst) : (wdB h).length = h.q.n + 1 := by unfold wdB; rw [List.length_cons, List.length_map, List.length_range]
theorem wdB_ok {h : Hst} (hh : Rd2 h) : lnOk (wdB h) = true := by
 have h1 := hh.one
 unfold lnOk
 rw [wdB_len, decide_eq_true (by omega), show (wdB h).getD 0 ⟨#[]⟩ = prn h.a.f from rfl, decide_eq_true hh.num, show h.q.n + 1 - 1 = h.q.n by omega, wdB_oks hh _ (Nat.le_refl _)]
 rfl
theorem wdB_same {h : Hst} (hh : Rd2 h) : (lnH (wdB h)).a = h.a ∧ (lnH (wdB h)).q.n = h.q.n ∧ ∀ k, k < h.q.n → (lnH (wdB h)).q.g k = h.q.g k := by
 refine ⟨hh.adr, ?_, fun k hk => ?_⟩
 ·show (wdB h).length - 1 = _
  rw [wdB_len]; omega
 ·show (toA ((wdB h).getD (k + 1) ⟨#[]⟩)).1 = _
  rw [wdB_get h k hk, (hh.out k hk).fix]
theorem back_all (s : ByteArray) (hs : s.size ≤ 2000) : lenH (prsH (bkS s)) = lenH (prsH s) ∧ ∀ i, i < lenH (prsH s) → (getH (prsH (bkS s)) i).a = (getH (prsH s) i).a ∧ (getH (prsH (bkS s)) i).q.n = (getH (prsH s) i).q.n ∧ ∀ k, k < (getH (prsH s) i).q.n → (getH (prsH (bkS s)) i).q.g k = (getH (prsH s) i).q.g k := by
 have hr : ∀ i, i < lenH (prsH s) → Rd2 (getH (prsH s) i) := prsH_rd2 s
 have h64 := prsH_len s
 have hw : ∀ j, j < lenH (prsH s) → words (mk8 (nmT (getH (prsH s) j).q.g (prn (getH (prsH s) j).a.f) (getH (prsH s) j).q.n).data.toList) = wdB (getH (prsH s) j) := fun j hj => words_line _ _ _ (hr j hj).cl (hr j hj).ne (hr j hj).out
 have hl : linesS (bkS s) = ((List.range (lenH (prsH s))).map fun j => mk8 (nmT (getH (prsH s) j).q.g (prn (getH (prsH s) j).a.f) (getH (prsH s) j).q.n).data.toList) ++ [mk8 []] := by
  unfold linesS bkS
  rw [splitS_one, prtN_split (getH (prsH s)) _ (fun i hi => ⟨(hr i hi).cl, (hr i hi).out⟩) _ (Nat.le_refl _), List.map_append, List.map_map]
  rfl
 have hp : prsH (bkS s) = (List.range (lenH (prsH s))).map fun j => lnH (wdB (getH (prsH s) j)) := by
  rw [prsH_eq, hl, lnsL_app, lnsL_end, List.append_nil, lnsL_all _ _ (fun j hj => by rw [hw j (List.mem_range.1 hj)]; exact wdB_ok (hr j (List.mem_range.1 hj))), List.take_of_length_le (by rw [List.length_map, List.length_range]; exact h64)]
  apply List.map_congr_left
  intro j hj
  rw [hw j (List.mem_range.1 hj)]
 have hlen : lenH (prsH (bkS s)) = lenH (prsH s) := by
  rw [hp]
  show (List.map _ _).length = _
  rw [List.length_map, List.length_range]
 refine ⟨hlen, fun i hi => ?_⟩
 have hg : getH (prsH (bkS s)) i = lnH (wdB (getH (prsH s) i)) := by
  rw [hp]
  unfold getH
  rw [List.getD_eq_getElem?_getD, List.getElem?_map, List.getElem?_range hi]
  rfl
 rw [hg]
 exact wdB_same (hr i hi)
theorem nmT_sizeB (B : Nat) (g : Nat → ByteArray) (t : ByteArray) (n : Nat) (hg : ∀ i, i < n → (g i).size ≤ B) : ∀ j, j ≤ n → (nmT g t j).size ≤ t.size + j * (B + 1)
 | 0, _ => by rw [nmT]; omega
 | j + 1, h => by
  have ih := nmT_sizeB B g t n hg j (by omega)
  have h1 := hg j (by omega)
  rw [nmT, ByteArray.size_append, ByteArray.size_append, show (⟨#[32]⟩ : ByteArray).size = 1 from rfl, Nat.add_mul]
  omega
theorem bk_size (s : ByteArray) (hs : s.size ≤ 2000) : (bkS s).size ≤ 1000000000 ∧ ∀ i, ((linesS (bkS s)).getD i ⟨#[]⟩).size ≤ 1000000 := by
 have h64 := prsH_len s
 have hb : ∀ j, j < lenH (prsH s) → ∀ t : ByteArray, t.size ≤ 64 → (nmT (getH (prsH s) j).q.g t (getH (prsH s) j).q.n).size ≤ 508064 := fun j hj t ht => by
  have h1 := prsH_rd2 s j hj
  have h2 := (prsH_at s j hj).le
  have h3 := nmT_sizeB 253 (getH (prsH s) j).q.g t (getH (prsH s) j).q.n (fun k hk => (h1.out k hk).le) _ (Nat.le_refl _)
  have : (getH (prsH s) j).q.n * (253 + 1) ≤ 2000 * 254 := Nat.mul_le_mul (by omega) (by omega)
  omega
 have hp : ∀ j, j < lenH (prsH s) → (prn (getH (prsH s) j).a.f).size ≤ 64 := fun j hj => prn_size _ (prsH_at s j hj).b
 have hz : ∀ i, i ≤ lenH (prsH s) → (prtN (getH (prsH s)) i).size ≤ i * 508065 := by
  intro i
  induction i with
  | zero => intro _; exact Nat.le_refl _
  | succ i ih =>
   intro hi
   have h1 := ih (by omega)
   have h2 := hb i (by omega) _ (hp i (by omega))
   have h3 := nmT_app (getH (prsH s) i).q.g (prtN (getH (prsH s)) i) (prn (getH (prsH s) i).a.f) (getH (prsH s) i).q.n
   have h4 := congrArg List.length h3
   rw [List.length_append, ← size_data, ← size_data, ← size_data] at h4
   rw [prtN, lnT, ByteArray.size_append, show (⟨#[10]⟩ : ByteArray).size = 1 from rfl, h4]
   omega
 refine ⟨by have := hz _ (Nat.le_refl _); show (prtN (getH (prsH s)) (lenH (prsH s))).size ≤ _; omega, getD_all (P := fun x : ByteArray => x.size ≤ 1000000) (Nat.zero_le _) fun x hx => ?_⟩
 have hl : linesS (bkS s) = ((List.range (lenH (prsH s))).map fun j => mk8 (nmT (getH (prsH s) j).q.g (prn (getH (prsH s) j).a.f) (getH (prsH s) j).q.n).data.toList) ++ [mk8 []] := by
  unfold linesS bkS
  rw [splitS_one, prtN_split (getH (prsH s)) _ (fun i hi => ⟨(prsH_rd2 s i hi).cl, (prsH_rd2 s i hi).out⟩) _ (Nat.le_refl _), List.map_append, List.map_map]
  rfl
 rw [hl] at hx
 rcases List.mem_append.1 hx with hx | hx
 ·obtain ⟨j, hj, rfl⟩ := List.mem_map.1 hx
  have := hb j (List.mem_range.1 hj) _ (hp j (List.mem_range.1 hj))
  rw [data_mk8]
  omega
 ·obtain rfl := List.mem_singleton.1 hx
  exact Nat.zero_le _
theorem bk_v (s : ByteArray) : bkV s := by
 rw [bkV]
 refine ⟨fun h => absurd h (by decide), fun _ => ⟨fun _ => rfl, fun h => ?_⟩⟩
 have h1 : decide ((s.size : Int) ≤ 2000) = true := by simpa using h
 have h1 : (s.size : Int) ≤ 2000 := of_decide_eq_true h1
 have hs : s.size ≤ 2000 := by omega
 have h64 := prsH_len s
 obtain ⟨b1, b2⟩ := back_all s hs
 obtain ⟨z1, z2⟩ := bk_size s hs
 refine ⟨by omega, fun i => by have := lines_each s i; omega, fun _ _ => rfl, by omega, prsH_rd s hs, z1, z2, fun h2 => ?_, fun _ => ⟨⟨⟨0⟩, Nat.zero_le _, rfl, rfl, rfl, rfl, rfl, trivial⟩, ?_⟩⟩
 ·have h2 : ((((lenH (prsH s) : Nat) : Int) != ((lenH (prsH (bkS s)) : Nat) : Int)) || decide (((lenH (prsH s) : Nat) : Int) > 64)) = true := h2
  rw [b1, decide_eq_false (by omega)] at h2
  simp at h2
 rintro ⟨i⟩ hi
 have hi : i ≤ lenH (prsH s) := hi
 refine ⟨fun h2 => ?_, fun _ => rfl⟩
 have h2 : (i : Int) < lenH (prsH s) := of_decide_eq_true h2
 have hil : i < lenH (prsH s) := by omega
 obtain ⟨c1, c2, c3⟩ := b2 i hil
 have one := (prsH_rd2 s i hil).one
 have le := (prsH_at s i hil).le
 have ha : bkV_a s ⟨i⟩ = true := by
  rw [bkV_a]
  dsimp only
  rw [Int.toNat_natCast, c1]
  simp
 have hb : bkV_b s ⟨i⟩ = false := by
  rw [bkV_b, ha]
  dsimp only
  rw [Int.toNat_natCast, c2]
  simp
 dsimp only
 rw [Int.toNat_natCast, b1]
 refine ⟨by omega, h2, by omega, h2, fun _ => by omega, fun _ => h2, fun _ => by omega, fun _ => h2, fun h => h, fun h => h, fun _ => by omega, fun _ => h2, fun h => h, fun h => h, fun h => h, fun h => h, fun h => by rw [h]; rfl, fun h3 => ?_, fun _ => ⟨by omega, h2, ⟨i⟩, ⟨⟨0⟩, ⟨Nat.zero_le _, hil⟩, rfl, rfl, rfl, rfl, rfl, rfl, rfl, rfl, trivial⟩, ?_⟩⟩
 ·rw [ha, c2] at h3
  simp at h3
  omega
 rintro ⟨j⟩ ⟨hj, -⟩
 have hj : j ≤ (getH (prsH s) i).q.n := hj
 dsimp only
 refine ⟨fun h3 => ?_, fun h3 => ⟨by unfold in64; omega, ⟨i + 1⟩, (show i + 1 ≤ lenH (prsH s) by omega), (show lenH (prsH s) - (i + 1) < lenH (prsH s) - i by omega), rfl, rfl, rfl, rfl, rfl, trivial⟩⟩
 have h3 : (j : Int) < (getH (prsH s) i).q.n := of_decide_eq_true h3
 rw [Int.toNat_natCast, Int.toNat_natCast, c3 j (by omega), c2]
 refine ⟨by omega, h2, by omega, h3, by omega, h2, by omega, h3, fun h4 => by simp at h4, fun _ => ⟨by unfold in64; omega, ⟨j + 1⟩, ⟨(show j + 1 ≤ (getH (prsH s) i).q.n by omega), hil⟩, (show (getH (prsH s) i).q.n - (j + 1) < (getH (prsH s) i).q.n - j by omega), rfl, rfl, rfl, rfl, rfl, rfl, rfl, rfl, trivial⟩⟩
theorem hback_ok : CTok Tryz.prog 8 (C1 dStr (fun _ => []) fun _ => XB true) := C1_ok cx6_ok Tryz.func8 rfl (by decide) dStr_eq.ok (by kernel_rfl) (fun _ => rfl) fun s _ => exv (bkV_eq s) (bk_v s)
end Go.Proofs.YtkjcoehblekpdaaGreatDoorAv
namespace Go.Proofs.YtkjcoehblekpdaaGreatDoorAv
open Go Go.RowKit
theorem hostsBack_J (L : GH) (s : ByteArray) (hs : s.size ≤ 140737488351232) : JF Tryz.prog 8 [strAV s] L (fun v L' => v = boolAV true ∧ L' = L) := by
 refine law_J hback_ok (xs := [XT s]) (cs := _) rfl ?_ ?_ L
 ·intro p hp
  simp only [List.nil_append, List.not_mem_nil] at hp
 ·simp only [RVL]
  exact ⟨by simp [RV, strAV], trivial⟩
end Go.Proofs.YtkjcoehblekpdaaGreatDoorAv
