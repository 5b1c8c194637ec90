/- Own texts, put together: PnP; NmH; PnB; PnQ; PnR; PnC; PnS; NmI; PnT; PnU; NmRowF. -/
import Derived.Test.YtedmgnhbfpjceaaDoorMgE
import Derived.Lib.ValidLaws
set_option linter.unusedVariables false
set_option linter.unusedSimpArgs false
set_option maxRecDepth 100000
namespace Go.Proofs.YtedmgnhbfpjceaaDoorAv
open Go Go.RowKit
def toB (x : Int) : UInt8 := UInt8.ofNat x.toNat
theorem toB_nat {x : Int} (h0 : 0 ≤ x) (h1 : x < 256) : ((toB x).toNat : Int) = x := by
  unfold toB
  rw [UInt8.toNat_ofNat']
  omega
theorem vlu_dgt {x : Int} (h0 : 0 ≤ x) (h1 : x < 36) : vlu ((toB (dgt x)).toNat : Int) = x := by
  have h := dgt_rng x h0 h1
  rw [toB_nat (by omega) (by omega)]
  unfold dgt vlu
  split
  · rw [if_pos (by omega)]; omega
  · rw [if_neg (by omega), if_neg (by omega), if_pos (by omega)]; omega
/-- A number's digits are read as that number. -/
theorem dig_dec (b : Int) (rest : List UInt8) : ∀ (f : Nat) (q i w k : Int), 0 ≤ q → q < 10 ^ f → 0 ≤ i → 1 ≤ w → w ≤ 70000001 → i + q * w ≤ 2000000 → dnG b ((nmG b (f + 1) q k).map toB ++ rest) i w k = some (rest, i + q * w) := by
  intro f
  induction f with
  | zero =>
    intro q i w k h0 h1 hi hw hw1 hb
    have ht := thr_rng k b
    have hq : q = 0 := by simp at h1; omega
    subst hq
    have e : nmG b (0 + 1) 0 k = [dgt 0] := by rw [nmG, if_pos (by omega)]
    rw [e, List.map_singleton, List.singleton_append, dnG, vlu_dgt (Int.le_refl _) (by decide), if_neg (by omega), if_pos (by omega)]
  | succ f ih =>
    intro q i w k h0 h1 hi hw hw1 hb
    have ht := thr_rng k b
    have hqw : 0 ≤ q * w := Int.mul_nonneg h0 (by omega)
    by_cases h : q < thr k b
    · have e : nmG b (f + 1 + 1) q k = [dgt q] := by rw [nmG, if_pos h]
      rw [e, List.map_singleton, List.singleton_append, dnG, vlu_dgt h0 (by omega), if_neg (by omega), if_pos h]
    · rw [nmG_no h, List.map_cons, List.cons_append, dnG]
      generalize htt : thr k b = t at *
      have r1 : 0 ≤ (q - t) % (36 - t) := Int.emod_nonneg _ (by omega)
      have r2 : (q - t) % (36 - t) < 36 - t := Int.emod_lt_of_pos _ (by omega)
      have r3 : 0 ≤ (q - t) / (36 - t) := Int.ediv_nonneg (by omega) (by omega)
      have r5 : (36 - t) * ((q - t) / (36 - t)) + (q - t) % (36 - t) = q - t := Int.mul_ediv_add_emod _ _
      have r4 : (q - t) / (36 - t) < 10 ^ f := by
        rw [Int.pow_succ] at h1
        have hp0 : (0 : Int) ≤ 10 ^ f := Int.le_of_lt (Int.pow_pos (by decide))
        apply Int.ediv_lt_of_lt_mul (by omega)
        generalize (10 : Int) ^ f = z at *
        have : z * 10 ≤ z * (36 - t) := Int.mul_le_mul_of_nonneg_left (by omega) hp0
        omega
      rw [vlu_dgt (by omega) (by omega), if_neg (by omega), if_neg (by omega)]
      have hw2 : w * (36 - t) ≤ w * 35 := Int.mul_le_mul_of_nonneg_left (by omega) (by omega)
      have hw3 : w * 1 ≤ w * (36 - t) := Int.mul_le_mul_of_nonneg_left (by omega) (by omega)
      have hw4 : w * 1 ≤ w * q := Int.mul_le_mul_of_nonneg_left (by omega) (by omega)
      have hw5 : w * q = q * w := Int.mul_comm _ _
      have hx0 : 0 ≤ (t + (q - t) % (36 - t)) * w := Int.mul_nonneg (by omega) (by omega)
      have he : i + (t + (q - t) % (36 - t)) * w + (q - t) / (36 - t) * (w * (36 - t)) = i + q * w := by
        have e1 : (q - t) / (36 - t) * (w * (36 - t)) = ((36 - t) * ((q - t) / (36 - t))) * w := by
          rw [Int.mul_comm w, ← Int.mul_assoc, Int.mul_comm ((q - t) / (36 - t))]
        rw [e1, Int.add_assoc, ← Int.add_mul]
        congr 2
        omega
      have hd := ih ((q - t) / (36 - t)) (i + (t + (q - t) % (36 - t)) * w) (w * (36 - t)) (k + 36) r3 r4 (by omega) (by omega) (by omega) (by omega)
      rw [hd, he]
theorem num_dec (b q i : Int) (rest : List UInt8) (h0 : 0 ≤ q) (hi : 0 ≤ i) (hb : i + q ≤ 2000000) : dnG b ((num q b).map toB ++ rest) i 1 36 = some (rest, i + q) := by
  have := dig_dec b rest 18 q i 1 36 h0 (by omega) hi (Int.le_refl _) (by decide) (by omega)
  rw [Int.mul_one] at this
  exact this
/-- A digit's sign. -/
def digP (x : Int) : Prop := (48 ≤ x ∧ x ≤ 57) ∨ (97 ≤ x ∧ x ≤ 122)
theorem dgt_P (d : Int) (h0 : 0 ≤ d) (h1 : d < 36) : digP (dgt d) := by
  unfold dgt digP
  split <;> omega
theorem nmG_P (b : Int) : ∀ (f : Nat) (q k : Int), 0 ≤ q → ∀ x ∈ nmG b f q k, digP x
  | 0, q, k, _, x, hx => by simp [nmG] at hx
  | f + 1, q, k, h0, x, hx => by
    have ht := thr_rng k b
    by_cases h : q < thr k b
    · rw [nmG, if_pos h] at hx
      obtain rfl := List.mem_singleton.1 hx
      exact dgt_P q h0 (by omega)
    · rw [nmG_no h] at hx
      rcases List.mem_cons.1 hx with rfl | hx
      · have r1 : 0 ≤ (q - thr k b) % (36 - thr k b) := Int.emod_nonneg _ (by omega)
        have r2 : (q - thr k b) % (36 - thr k b) < 36 - thr k b := Int.emod_lt_of_pos _ (by omega)
        exact dgt_P _ (by omega) (by omega)
      · exact nmG_P b f _ _ (Int.ediv_nonneg (by omega) (by omega)) x hx
theorem num_P (q b : Int) (h0 : 0 ≤ q) : ∀ x ∈ num q b, digP x := nmG_P b 19 q 36 h0
theorem num_ne (q b : Int) : num q b ≠ [] := by
  intro h
  unfold num at h
  rw [nmG] at h
  split at h <;> cases h
/-! A round, beside what is read -/
/-- What stands there, at place i of a round for m. -/
def dcc (l : List Int) (m : Int) (i : Nat) : List Int := (l.take i).filter (fun r => decide (r ≤ m)) ++ (l.drop i).filter (fun r => decide (r < m))
def dcl (l : List Int) (m : Int) (i : Nat) : Nat := ((l.take i).filter (fun r => decide (r ≤ m))).length
/-- The decoder, led along. -/
def Led (e0 : List Int) (k : Nat) (dg : List Int) (n i b : Int) (o : List Int) : Prop := ∀ f rest, dcG (f + k) (dg.map toB ++ rest) 128 0 72 e0 = dcG f rest n i b o
structure RI (l e1 e0 : List Int) (h0 m : Int) (i : Nat) (s : ES) (n j : Int) (k : Nat) (dg : List Int) : Prop where
  fo : s.o = e1 ++ dg
  fh : s.h = (dcc l m i).length
  led : Led e0 k dg n j s.b (dcc l m i)
  key : n * (s.h + 1) + j + s.d = m * (s.h + 1) + dcl l m i
  fj : 0 ≤ j ∧ j ≤ s.h
  fd : 0 ≤ s.d
  fn : 128 ≤ n ∧ n ≤ m
  st : (j == 0) = (s.h == h0)
  fh0 : h0 ≤ s.h
  fk : k ≤ dg.length
  dig : ∀ x ∈ dg, digP x
theorem filt_len (l : List Int) (p : Int → Bool) : (l.filter p).length ≤ l.length := List.length_filter_le _ _
theorem dcc_len (l : List Int) (m : Int) (i : Nat) : (dcc l m i).length ≤ l.length := by
  unfold dcc
  rw [List.length_append]
  have h1 := filt_len (l.take i) (fun r => decide (r ≤ m))
  have h2 := filt_len (l.drop i) (fun r => decide (r < m))
  rw [List.length_take] at h1
  rw [List.length_drop] at h2
  omega
theorem dcl_le (l : List Int) (m : Int) (i : Nat) : dcl l m i ≤ (dcc l m i).length := by
  unfold dcl dcc
  rw [List.length_append]; omega
theorem take_at (l : List Int) (i : Nat) (h : i < l.length) : l.take (i + 1) = l.take i ++ [l.getD i 0] := take_snoc' l i 0 h
theorem drop_at (l : List Int) (i : Nat) (h : i < l.length) : l.drop i = l.getD i 0 :: l.drop (i + 1) := by
  rw [List.drop_eq_getElem_cons h, List.getD_eq_getElem?_getD, List.getElem?_eq_getElem h]
  rfl
theorem dcc_same (l : List Int) (m : Int) (i : Nat) (h : i < l.length) (h1 : l.getD i 0 ≠ m) : dcc l m (i + 1) = dcc l m i := by
  unfold dcc
  rw [take_at l i h, drop_at l i h, List.filter_append, List.append_assoc]
  congr 1
  generalize l.getD i 0 = r at *
  by_cases e : r < m
  · rw [List.filter_cons_of_pos (by simp; omega), List.filter_cons_of_pos (by simp; omega)]; rfl
  · rw [List.filter_cons_of_neg (by simp; omega), List.filter_cons_of_neg (by simp; omega)]; rfl
theorem dcl_step (l : List Int) (m : Int) (i : Nat) (h : i < l.length) : dcl l m (i + 1) = if l.getD i 0 ≤ m then dcl l m i + 1 else dcl l m i := by
  unfold dcl
  rw [take_at l i h, List.filter_append, List.length_append]
  generalize l.getD i 0 = r at *
  by_cases e : r ≤ m
  · rw [if_pos e, List.filter_cons_of_pos (by simpa using e)]; rfl
  · rw [if_neg e, List.filter_cons_of_neg (by simpa using e)]; rfl
theorem dcc_ins (l : List Int) (m : Int) (i : Nat) (h : i < l.length) (h1 : l.getD i 0 = m) : dcc l m (i + 1) = (dcc l m i).take (dcl l m i) ++ m :: (dcc l m i).drop (dcl l m i) := by
  unfold dcc dcl
  rw [take_at l i h, drop_at l i h, h1, List.filter_append]
  have e1 : [m].filter (fun r => decide (r ≤ m)) = [m] := by simp
  have e2 : (m :: l.drop (i + 1)).filter (fun r => decide (r < m)) = (l.drop (i + 1)).filter (fun r => decide (r < m)) := by
    rw [List.filter_cons_of_neg (by simp)]
  rw [e1, e2, List.take_left', List.drop_left']
  · rw [List.append_assoc]; rfl
  · rfl
  · rfl
theorem RI.step {l e1 e0 : List Int} {h0 m : Int} {i : Nat} {s : ES} {n j : Int} {k : Nat} {dg : List Int} (hl : l.length ≤ 63) (hm : m ≤ 2000) (hi : i < l.length) (R : RI l e1 e0 h0 m i s n j k dg) :
    ∃ n' j' k' dg', RI l e1 e0 h0 m (i + 1) (stp h0 m s (l.getD i 0)) n' j' k' dg' := by
  have hcl := dcl_le l m i
  have hdl := dcc_len l m i
  obtain ⟨r1, r2, r3, r4, ⟨r5, r6⟩, r7, ⟨r8, r9⟩, r10, r11, r12, r13⟩ := R
  have hst := dcl_step l m i hi
  rcases Int.lt_trichotomy (l.getD i 0) m with h | h | h
  · rw [stp_lt _ _ _ _ h]
    have e := dcc_same l m i hi (by omega)
    rw [if_pos (by omega)] at hst
    exact ⟨n, j, k, dg, r1, by rw [e]; exact r2, by rw [e]; exact r3, by show n * (s.h + 1) + j + (s.d + 1) = m * (s.h + 1) + (dcl l m (i + 1) : Nat); rw [hst]; omega, ⟨r5, r6⟩, by show 0 ≤ s.d + 1; omega, ⟨r8, r9⟩, r10, r11, r12, r13⟩
  · rw [stp_eq _ _ _ _ h]
    have e := dcc_ins l m i hi h
    rw [if_pos (by omega)] at hst
    have hel : (dcc l m (i + 1)).length = (dcc l m i).length + 1 := by
      rw [e, List.length_append, List.length_cons, List.length_take, List.length_drop]; omega
    have hp0 : 0 ≤ (m - n) * (s.h + 1) := Int.mul_nonneg (by omega) (by omega)
    have hp1 : (m - n) * (s.h + 1) ≤ 2000 * 64 := Int.mul_le_mul (by omega) (by omega) (by omega) (by decide)
    have hkey : j + s.d = (m - n) * (s.h + 1) + dcl l m i := by rw [Int.sub_mul]; omega
    refine ⟨m, dcl l m i + 1, k + 1, dg ++ num s.d s.b, ?_, ?_, ?_, ?_, ⟨by omega, ?_⟩, Int.le_refl _, ⟨by omega, Int.le_refl _⟩, ?_, ?_, ?_, ?_⟩
    · show s.o ++ _ = _; rw [r1, List.append_assoc]
    · show s.h + 1 = _; rw [hel]; omega
    · intro f rest
      have h1 := r3 (f + 1) ((num s.d s.b).map toB ++ rest)
      rw [List.map_append, List.append_assoc, show f + (k + 1) = f + 1 + k by omega, h1]
      obtain ⟨c, t, ht⟩ : ∃ c t, (num s.d s.b).map toB = c :: t := by
        cases hn : num s.d s.b with
        | nil => exact absurd hn (num_ne _ _)
        | cons a t => exact ⟨toB a, t.map toB, rfl⟩
      have hnd := num_dec s.b s.d j rest r7 r5 (by omega)
      rw [ht, List.cons_append, dcG_cons, ← List.cons_append, ← ht, hnd, dcN]
      have hlen : ((dcc l m i).length : Int) = s.h := r2.symm
      have hq : (j + s.d) / ((dcc l m i).length + 1) = m - n := by
        rw [hlen, hkey, Int.add_comm, Int.add_mul_ediv_right _ _ (by omega), Int.ediv_eq_zero_of_lt (by omega) (by omega)]; omega
      have hr : (j + s.d) % ((dcc l m i).length + 1) = dcl l m i := by
        rw [hlen, hkey, Int.add_comm, Int.add_mul_emod_self_right, Int.emod_eq_of_lt (by omega) (by omega)]
      rw [hq, hr, if_neg]
      · rw [show n + (m - n) = m by omega, show j + s.d - j = s.d by omega, hlen, r10, e, Int.toNat_natCast]
      · unfold badR; omega
    · show m * (s.h + 1 + 1) + (dcl l m i + 1 : Int) + 0 = m * (s.h + 1 + 1) + (dcl l m (i + 1) : Nat)
      rw [hst]; omega
    · show (dcl l m i : Int) + 1 ≤ s.h + 1; omega
    · have a1 : ((dcl l m i : Int) + 1 == 0) = false := by rw [beq_eq_false_iff_ne]; omega
      have a2 : (s.h + 1 == h0) = false := by rw [beq_eq_false_iff_ne]; omega
      rw [a1]; exact a2.symm
    · show h0 ≤ s.h + 1; omega
    · rw [List.length_append]
      have : 1 ≤ (num s.d s.b).length := by
        cases hn : num s.d s.b with
        | nil => exact absurd hn (num_ne _ _)
        | cons a t => simp
      omega
    · intro x hx
      rcases List.mem_append.1 hx with hx | hx
      · exact r13 x hx
      · exact num_P _ _ r7 x hx
  · rw [stp_gt _ _ _ _ h]
    have e := dcc_same l m i hi (by omega)
    rw [if_neg (by omega)] at hst
    exact ⟨n, j, k, dg, r1, by rw [e]; exact r2, by rw [e]; exact r3, by rw [hst]; exact r4, ⟨r5, r6⟩, r7, ⟨r8, r9⟩, r10, r11, r12, r13⟩
theorem fol_RI {l e1 e0 : List Int} {h0 m : Int} (hl : l.length ≤ 63) (hm : m ≤ 2000) (s : ES) : ∀ i, i ≤ l.length → (∃ n j k dg, RI l e1 e0 h0 m 0 s n j k dg) → ∃ n j k dg, RI l e1 e0 h0 m i (fol (fun j => l.getD j 0) h0 m s i) n j k dg
  | 0, _, h => h
  | i + 1, hi, h => by
    obtain ⟨n, j, k, dg, R⟩ := fol_RI hl hm s i (by omega) h
    exact R.step hl hm (by omega)
/-- At a round's head. -/
structure HI (l e1 e0 : List Int) (h0 m : Int) (s : ES) (n j : Int) (k : Nat) (dg : List Int) : Prop where
  fo : s.o = e1 ++ dg
  fh : s.h = (l.filter (fun r => decide (r < m))).length
  led : Led e0 k dg n j s.b (l.filter (fun r => decide (r < m)))
  key : n * (s.h + 1) + j + s.d = m * (s.h + 1)
  fj : 0 ≤ j ∧ j ≤ s.h
  fd : 0 ≤ s.d
  fn : 128 ≤ n ∧ n ≤ m
  st : (j == 0) = (s.h == h0)
  fh0 : h0 ≤ s.h
  fk : k ≤ dg.length
  dig : ∀ x ∈ dg, digP x
theorem dcc_zero (l : List Int) (m : Int) : dcc l m 0 = l.filter (fun r => decide (r < m)) := by simp [dcc]
theorem dcc_full (l : List Int) (m : Int) : dcc l m l.length = l.filter (fun r => decide (r ≤ m)) := by simp [dcc]
theorem dcl_full (l : List Int) (m : Int) : dcl l m l.length = (l.filter (fun r => decide (r ≤ m))).length := by simp [dcl]
theorem filt_eq {l : List Int} {a b : Int} (h : ∀ r ∈ l, r < a ↔ r < b) : l.filter (fun r => decide (r < a)) = l.filter (fun r => decide (r < b)) := by
  apply List.filter_congr
  intro r hr
  rw [decide_eq_decide]
  exact h r hr
/-- A whole round. -/
theorem HI.round {l e1 e0 : List Int} {h0 m : Int} {s : ES} {n j : Int} {k : Nat} {dg : List Int} (hl : l.length ≤ 63) (H : HI l e1 e0 h0 m s n j k dg) (m' : Int) (hmm : m ≤ m') (hm : m' ≤ 2000) (hno : ∀ r ∈ l, r < m ∨ m' ≤ r) :
    ∃ n' j' k' dg', HI l e1 e0 h0 (m' + 1) { fol (fun j => l.getD j 0) h0 m' { s with d := s.d + (m' - m) * (s.h + 1) } l.length with d := (fol (fun j => l.getD j 0) h0 m' { s with d := s.d + (m' - m) * (s.h + 1) } l.length).d + 1 } n' j' k' dg' := by
  obtain ⟨q1, q2, q3, q4, ⟨q5, q6⟩, q7, ⟨q8, q9⟩, q10, q11, q12, q13⟩ := H
  have hp0 : 0 ≤ (m' - m) * (s.h + 1) := Int.mul_nonneg (by omega) (by omega)
  have hf : l.filter (fun r => decide (r < m)) = l.filter (fun r => decide (r < m')) := filt_eq fun r hr => by
    rcases hno r hr with h | h <;> omega
  have R0 : RI l e1 e0 h0 m' 0 { s with d := s.d + (m' - m) * (s.h + 1) } n j k dg := ⟨q1, by rw [dcc_zero, ← hf]; exact q2, by rw [dcc_zero, ← hf]; exact q3, by
      show n * (s.h + 1) + j + (s.d + (m' - m) * (s.h + 1)) = m' * (s.h + 1) + ((dcl l m' 0 : Nat) : Int)
      have : dcl l m' 0 = 0 := by simp [dcl]
      rw [this, Int.sub_mul]; omega, ⟨q5, q6⟩, by show 0 ≤ s.d + _; omega, ⟨q8, by omega⟩, q10, q11, q12, q13⟩
  obtain ⟨n', j', k', dg', R⟩ := fol_RI hl hm { s with d := s.d + (m' - m) * (s.h + 1) } l.length (Nat.le_refl _) ⟨n, j, k, dg, R0⟩
  generalize fol (fun j => l.getD j 0) h0 m' { s with d := s.d + (m' - m) * (s.h + 1) } l.length = t at R ⊢
  obtain ⟨p1, p2, p3, p4, p5, p6, ⟨p7, p8⟩, p9, p10, p11, p12⟩ := R
  have hfe : l.filter (fun r => decide (r ≤ m')) = l.filter (fun r => decide (r < m' + 1)) := by
    apply List.filter_congr
    intro r _
    rw [decide_eq_decide]; omega
  rw [dcc_full, hfe] at p2 p3
  rw [dcl_full, hfe] at p4
  refine ⟨n', j', k', dg', p1, p2, p3, ?_, p5, by show 0 ≤ t.d + 1; omega, ⟨p7, by omega⟩, p9, p10, p11, p12⟩
  show n' * (t.h + 1) + j' + (t.d + 1) = (m' + 1) * (t.h + 1)
  rw [Int.add_mul]
  omega
theorem filt_all {l : List Int} {p : Int → Bool} (h : l.length ≤ (l.filter p).length) : l.filter p = l := by
  rw [List.filter_eq_self]
  intro a ha
  have := List.length_filter_lt_length_iff_exists (p := p) (l := l)
  cases hp : p a
  · exact absurd ((this).2 ⟨a, ha, by rw [hp]; decide⟩) (by omega)
  · rfl
theorem encG_RI {l e1 e0 : List Int} {h0 : Int} (hl : l.length ≤ 63) (hg : ∀ r ∈ l, 0 ≤ r ∧ r < 2000) : ∀ (f : Nat) (m : Int) (s : ES) (n j : Int) (k : Nat) (dg : List Int), OK2 ⟨l.length, fun j => l.getD j 0⟩ h0 ⟨m, s, f⟩ → HI l e1 e0 h0 m s n j k dg → ∀ o, encG (fun j => l.getD j 0) l.length h0 f m s = (o, 0) →
    ∃ k' dg', o = e1 ++ dg' ∧ k' ≤ dg'.length ∧ (∀ x ∈ dg', digP x) ∧ ∀ f', dcG (f' + k') (dg'.map toB) 128 0 72 e0 = some l := by
  have hg' : ∀ i, i < l.length → 0 ≤ l.getD i 0 ∧ l.getD i 0 < 2000 := fun i hi => by
    rw [List.getD_eq_getElem?_getD, List.getElem?_eq_getElem hi]
    exact hg _ (List.getElem_mem hi)
  have fin : ∀ (m : Int) (s : ES) (n j : Int) (k : Nat) (dg : List Int), HI l e1 e0 h0 m s n j k dg → ¬ s.h < l.length → ∀ o, (s.o, (0 : Int)) = (o, 0) → ∃ k' dg', o = e1 ++ dg' ∧ k' ≤ dg'.length ∧ (∀ x ∈ dg', digP x) ∧ ∀ f', dcG (f' + k') (dg'.map toB) 128 0 72 e0 = some l := by
    intro m s n j k dg H h2 o ho
    have ho : s.o = o := congrArg Prod.fst ho
    have hfl : l.filter (fun r => decide (r < m)) = l := filt_all (by have := H.fh; omega)
    refine ⟨k, dg, ho ▸ H.fo, H.fk, H.dig, fun f' => ?_⟩
    have := H.led f' []
    rw [List.append_nil, hfl] at this
    rw [this]
    cases f' <;> rfl
  intro f
  induction f with
  | zero =>
    intro m s n j k dg hK H o ho
    by_cases h3 : s.o.length > 63
    · rw [encG_stop h3] at ho; exact absurd (show (2 : Int) = 0 from congrArg Prod.snd ho) (by decide)
    · have h1 := hK.f.1
      have h2 : ¬ s.h < l.length := by
        have h1 : (l.length : Int) - s.h ≤ (0 : Nat) := h1
        omega
      rw [encG_end h3 h2] at ho
      exact fin m s n j k dg H h2 o ho
  | succ f ih =>
    intro m s n j k dg hK H o ho
    by_cases h3 : s.o.length > 63
    · rw [encG_stop h3] at ho; exact absurd (show (2 : Int) = 0 from congrArg Prod.snd ho) (by decide)
    · by_cases h2 : s.h < l.length
      · rw [encG_go h3 h2] at ho
        obtain ⟨K', m0, m1, m2⟩ := hK.step (q := ⟨l.length, fun j => l.getD j 0⟩) (by show l.length ≤ 2000; omega) (fun i hi => by have := hg' i hi; exact ⟨this.1, by show l.getD i 0 ≤ 1114111; omega⟩) h2 h3
        dsimp only at K' m0 m1 m2
        have hm2000 : mnr (fun j => l.getD j 0) m l.length ≤ 2000 := by
          have hkh : s.h = clt (fun j => l.getD j 0) m l.length := hK.h
          obtain ⟨jx, hj1, hj2⟩ := clt_ex (fun j => l.getD j 0) m l.length (by omega)
          have := hg' jx hj1
          rcases m2 jx hj1 with h | h
          · have hj2 : m ≤ l.getD jx 0 := hj2
            have h : l.getD jx 0 < m := h
            omega
          · have h : mnr (fun j => l.getD j 0) m l.length ≤ l.getD jx 0 := h
            omega
        obtain ⟨n', j', k', dg', H'⟩ := H.round hl (mnr (fun j => l.getD j 0) m l.length) m0 hm2000 fun r hr => by
          obtain ⟨i, hi, rfl⟩ := List.getElem_of_mem hr
          have this : l.getD i 0 < m ∨ mnr (fun j => l.getD j 0) m l.length ≤ l.getD i 0 := m2 i hi
          rw [List.getD_eq_getElem?_getD, List.getElem?_eq_getElem hi] at this
          exact this
        exact ih _ _ _ _ _ _ K' H' o ho
      · rw [encG_end h3 h2] at ho
        exact fin m s n j k dg H h2 o ho
theorem eo0_filt (l : List Int) : ∀ i, i ≤ l.length → eo0 (fun j => l.getD j 0) i = (l.take i).filter (fun r => decide (r < 128))
  | 0, _ => rfl
  | i + 1, h => by
    rw [eo0, eo0_filt l i (by omega), take_at l i (by omega), List.filter_append]
    by_cases e : l.getD i 0 < 128
    · rw [if_pos e, List.filter_cons_of_pos (by simpa using e)]; rfl
    · rw [if_neg e, List.filter_cons_of_neg (by simpa using e)]; simp
theorem encR_RI {l : List Int} (hl : l.length ≤ 63) (hg : ∀ r ∈ l, 0 ≤ r ∧ r < 2000) {o : List Int} (ho : encR (fun j => l.getD j 0) l.length = (o, 0)) :
    ∃ k' dg', o = eo1 (fun j => l.getD j 0) l.length ++ dg' ∧ k' ≤ dg'.length ∧ (∀ x ∈ dg', digP x) ∧ ∀ f', dcG (f' + k') (dg'.map toB) 128 0 72 (eo0 (fun j => l.getD j 0) l.length) = some l := by
  have hg' : ∀ i, i < l.length → 0 ≤ l.getD i 0 ∧ l.getD i 0 ≤ 1114111 := fun i hi => by
    rw [List.getD_eq_getElem?_getD, List.getElem?_eq_getElem hi]
    have := hg _ (List.getElem_mem hi)
    exact ⟨this.1, by show l[i] ≤ _; omega⟩
  have he := eo0_filt l l.length (Nat.le_refl _)
  rw [List.take_length] at he
  refine encG_RI hl hg l.length 128 ⟨(eo0 (fun j => l.getD j 0) l.length).length, 0, 72, eo1 (fun j => l.getD j 0) l.length⟩ 128 0 0 [] (OK2.start (q := ⟨l.length, fun j => l.getD j 0⟩) (by show l.length ≤ 2000; omega) hg') ⟨by simp, by rw [he], ?_, by show (128 : Int) * (((eo0 _ _).length : Int) + 1) + 0 + 0 = 128 * (((eo0 _ _).length : Int) + 1); omega, ⟨Int.le_refl _, by show (0 : Int) ≤ ((eo0 (fun j => l.getD j 0) l.length).length : Int); omega⟩, Int.le_refl _, ⟨Int.le_refl _, Int.le_refl _⟩, by simp, Int.le_refl _, Nat.le_refl _, fun x hx => by simp at hx⟩ o ho
  intro f rest
  rw [← he]
  rfl
end Go.Proofs.YtedmgnhbfpjceaaDoorAv
set_option linter.unusedVariables false
set_option linter.unusedSimpArgs false
set_option maxRecDepth 100000
namespace Go.Proofs.YtedmgnhbfpjceaaDoorAv
open Go Go.RowKit
def cxL : Cx := { cx0 with C := [(11, C0 [] (XB true)), (12, toAC), (13, toUC), (18, lspC), (15, rgtC), (14, lowC), (16, ljnC), (19, dotC), (20, cnlC), (17, goodC)] }
theorem cxL_ok : cxL.ok Tryd.prog := (((((((((cx0_ok.addC good_ok).addC cnl_ok).addC dot_ok).addC ljn_ok).addC low_ok).addC rgt_ok).addC lsp_ok).addC toU_ok).addC toA_ok).addC fit_ok
/-- A text's bytes, small letters ahead of place i capitals. -/
def upB (s : ByteArray) (i j : Nat) : Int := if j < i ∧ (97 ≤ sbyte s j ∧ sbyte s j ≤ 122) then IntKind.u8.wrap (sbyte s j - 32) else sbyte s j
def upT (s : ByteArray) : ByteArray := txtOf s.size fun j => UInt8.ofNat (upB s s.size (0 + j)).toNat
def cpI (s : ByteArray) : Inv where
  σ := IL
  S := fun x => ⟨[(0, XT s), (3, .sl 0 1 0 s.size), (31, .sl 0 1 0 s.size), (32, XI s.size), (33, XI x.i)], [(0, .vec 5 false s.size 1 fun j => [X8 (upB s x.i j)])], 1, false, []⟩
  inv := fun x => x.i ≤ s.size
  μ := fun x => s.size - x.i
def cpE (s : ByteArray) : Env := { loops := [(0, cpI s)] }
def capV (s : ByteArray) : Prop :=
  ((!true) = true → false = true) ∧ ((!true) = false → ((!decide ((↑s.size : Int) > (900 : Int)) && !decide (s = { data := #[] : ByteArray })) = true → in64 ((↑s.size : Int) - (1 : Int))) ∧ ((!decide ((↑s.size : Int) > (900 : Int)) && !decide (s = { data := #[] : ByteArray })) = true → (0 : Int) ≤ (↑s.size : Int) - (1 : Int)) ∧ ((!decide ((↑s.size : Int) > (900 : Int)) && !decide (s = { data := #[] : ByteArray })) = true → (↑s.size : Int) - (1 : Int) < (↑s.size : Int)) ∧ ((decide ((↑s.size : Int) > (900 : Int)) || !decide (s = { data := #[] : ByteArray }) && sbyte s ((↑s.size : Int) - (1 : Int)) == (46 : Int)) = true → true = true) ∧ ((decide ((↑s.size : Int) > (900 : Int)) || !decide (s = { data := #[] : ByteArray }) && sbyte s ((↑s.size : Int) - (1 : Int)) == (46 : Int)) = false → (∃ (x : (cpI s).σ), x.i.le s.size ∧ true = true ∧ s = s ∧ XV.sl (0 : Nat) (1 : Nat) (0 : Nat) s.size = XV.sl (0 : Nat) (1 : Nat) (0 : Nat) s.size ∧ XV.sl (0 : Nat) (1 : Nat) (0 : Nat) s.size = XV.sl (0 : Nat) (1 : Nat) (0 : Nat) s.size ∧ (↑s.size : Int) = (↑s.size : Int) ∧ (0 : Int) = (↑x.i : Int) ∧ (((5 : TypeId) = (5 : TypeId) ∧ false = false ∧ (1 : Nat) = (1 : Nat)) ∧ s.size = s.size ∧ ∀ (j : Nat), j < s.size → [X8 (sbyte s (↑j : Int))] = [X8 (upB s x.i j)]) ∧ True) ∧ ∀ (x : IL), x.i.le s.size → (decide ((↑x.i : Int) < (↑s.size : Int)) = true → (0 : Int) ≤ (↑x.i : Int) ∧ (↑x.i : Int) < (↑s.size : Int) ∧ (0 : Nat) + (↑x.i : Int).toNat < s.size ∧ ((decide (upB s x.i ((0 : Nat) + (↑x.i : Int).toNat) ≥ (97 : Int)) && decide (upB s x.i ((0 : Nat) + (↑x.i : Int).toNat) ≤ (122 : Int))) = true → (0 : Int) ≤ (↑x.i : Int) ∧ (↑x.i : Int) < (↑s.size : Int) ∧ (0 : Nat) + (↑x.i : Int).toNat < s.size ∧ in64 ((↑x.i : Int) + (1 : Int)) ∧ ∃ (x' : (cpI s).σ), x'.i.le s.size ∧ s.size - x'.i < s.size - x.i ∧ true = true ∧ s = s ∧ XV.sl (0 : Nat) (1 : Nat) (0 : Nat) s.size = XV.sl (0 : Nat) (1 : Nat) (0 : Nat) s.size ∧ XV.sl (0 : Nat) (1 : Nat) (0 : Nat) s.size = XV.sl (0 : Nat) (1 : Nat) (0 : Nat) s.size ∧ (↑s.size : Int) = (↑s.size : Int) ∧ (↑x.i : Int) + (1 : Int) = (↑x'.i : Int) ∧ (((5 : TypeId) = (5 : TypeId) ∧ false = false ∧ (1 : Nat) = (1 : Nat)) ∧ s.size = s.size ∧ ∀ (j : Nat), j < s.size → (bif j.beq ((0 : Nat) + (↑x.i : Int).toNat) then [X8 (IntKind.u8.wrap (upB s x.i ((0 : Nat) + (↑x.i : Int).toNat) - (32 : Int)))] else [X8 (upB s x.i j)]) = [X8 (upB s x'.i j)]) ∧ True) ∧ ((decide (upB s x.i ((0 : Nat) + (↑x.i : Int).toNat) ≥ (97 : Int)) && decide (upB s x.i ((0 : Nat) + (↑x.i : Int).toNat) ≤ (122 : Int))) = false → in64 ((↑x.i : Int) + (1 : Int)) ∧ ∃ (x' : (cpI s).σ), x'.i.le s.size ∧ s.size - x'.i < s.size - x.i ∧ true = true ∧ s = s ∧ XV.sl (0 : Nat) (1 : Nat) (0 : Nat) s.size = XV.sl (0 : Nat) (1 : Nat) (0 : Nat) s.size ∧ XV.sl (0 : Nat) (1 : Nat) (0 : Nat) s.size = XV.sl (0 : Nat) (1 : Nat) (0 : Nat) s.size ∧ (↑s.size : Int) = (↑s.size : Int) ∧ (↑x.i : Int) + (1 : Int) = (↑x'.i : Int) ∧ (((5 : TypeId) = (5 : TypeId) ∧ false = false ∧ (1 : Nat) = (1 : Nat)) ∧ s.size = s.size ∧ ∀ (j : Nat), j < s.size → [X8 (upB s x.i j)] = [X8 (upB s x'.i j)]) ∧ True)) ∧ (decide ((↑x.i : Int) < (↑s.size : Int)) = false → (0 : Nat) + s.size ≤ s.size ∧ (∀ (j : Nat), j < s.size → [X8 (upB s x.i ((0 : Nat) + j))] = [X8 (↑{ toBitVec := BitVec.ofNat (8 : Nat) (upB s x.i ((0 : Nat) + j)).toNat : UInt8 }.toNat : Int)]) ∧ s.size + (1 : Nat) ≤ (9223372036854775807 : Nat) ∧ (decide ((toA s).fst = (toA (txtOf s.size fun (j : Nat) => { toBitVec := BitVec.ofNat (8 : Nat) (upB s x.i ((0 : Nat) + j)).toNat : UInt8 })).fst) && (toA s).snd == (toA (txtOf s.size fun (j : Nat) => { toBitVec := BitVec.ofNat (8 : Nat) (upB s x.i ((0 : Nat) + j)).toNat : UInt8 })).snd && (decide ((toA s).fst = (toA (s ++ { data := #[(46 : UInt8)] : ByteArray })).fst) && (toA s).snd == (toA (s ++ { data := #[(46 : UInt8)] : ByteArray })).snd || decide (s = { data := #[] : ByteArray }))) = true)))
theorem capV_eq (s : ByteArray) : capV s = (funC cxL Tryd.f6 (mkSc (cpE s) (bodyOf Tryd.f6)) [XT s] (XB true)) := by kernel_rfl
def parV (a b : ByteArray) : Prop :=
  ((!true) = true → false = true) ∧ ((!true) = false → in64 ((↑a.size : Int) + (↑b.size : Int)) ∧ ((!decide ((↑a.size : Int) + (↑b.size : Int) > (400 : Int)) && !decide (a = { data := #[] : ByteArray })) = true → in64 ((↑a.size : Int) - (1 : Int))) ∧ ((!decide ((↑a.size : Int) + (↑b.size : Int) > (400 : Int)) && !decide (a = { data := #[] : ByteArray })) = true → (0 : Int) ≤ (↑a.size : Int) - (1 : Int)) ∧ ((!decide ((↑a.size : Int) + (↑b.size : Int) > (400 : Int)) && !decide (a = { data := #[] : ByteArray })) = true → (↑a.size : Int) - (1 : Int) < (↑a.size : Int)) ∧ ((!(decide ((↑a.size : Int) + (↑b.size : Int) > (400 : Int)) || !decide (a = { data := #[] : ByteArray }) && sbyte a ((↑a.size : Int) - (1 : Int)) == (46 : Int)) && !decide (b = { data := #[] : ByteArray })) = true → in64 ((↑b.size : Int) - (1 : Int))) ∧ ((!(decide ((↑a.size : Int) + (↑b.size : Int) > (400 : Int)) || !decide (a = { data := #[] : ByteArray }) && sbyte a ((↑a.size : Int) - (1 : Int)) == (46 : Int)) && !decide (b = { data := #[] : ByteArray })) = true → (0 : Int) ≤ (↑b.size : Int) - (1 : Int)) ∧ ((!(decide ((↑a.size : Int) + (↑b.size : Int) > (400 : Int)) || !decide (a = { data := #[] : ByteArray }) && sbyte a ((↑a.size : Int) - (1 : Int)) == (46 : Int)) && !decide (b = { data := #[] : ByteArray })) = true → (↑b.size : Int) - (1 : Int) < (↑b.size : Int)) ∧ ((decide ((↑a.size : Int) + (↑b.size : Int) > (400 : Int)) || !decide (a = { data := #[] : ByteArray }) && sbyte a ((↑a.size : Int) - (1 : Int)) == (46 : Int) || !decide (b = { data := #[] : ByteArray }) && sbyte b ((↑b.size : Int) - (1 : Int)) == (46 : Int)) = true → true = true) ∧ ((decide ((↑a.size : Int) + (↑b.size : Int) > (400 : Int)) || !decide (a = { data := #[] : ByteArray }) && sbyte a ((↑a.size : Int) - (1 : Int)) == (46 : Int) || !decide (b = { data := #[] : ByteArray }) && sbyte b ((↑b.size : Int) - (1 : Int)) == (46 : Int)) = false → a.size + (1 : Nat) ≤ (9223372036854775807 : Nat) ∧ (a ++ { data := #[(46 : UInt8)] : ByteArray }).size + b.size ≤ (9223372036854775807 : Nat) ∧ (((toA a).snd != (0 : Int) && (toA a).snd != (2 : Int)) = true → ((toA (a ++ { data := #[(46 : UInt8)] : ByteArray } ++ b)).snd == (toA a).snd) = true) ∧ (((toA a).snd != (0 : Int) && (toA a).snd != (2 : Int)) = false → ((!(decide (b = { data := #[] : ByteArray }) || (toA a).snd == (2 : Int))) = true → (!(decide (b = { data := #[] : ByteArray }) || (toA a).snd == (2 : Int))) = true) ∧ ((decide (b = { data := #[] : ByteArray }) || (toA a).snd == (2 : Int)) = false → (!(decide (b = { data := #[] : ByteArray }) || (toA a).snd == (2 : Int))) = true) ∧ ((decide (b = { data := #[] : ByteArray }) || (toA a).snd == (2 : Int) || (toA b).snd == (2 : Int)) = true → true = true) ∧ ((decide (b = { data := #[] : ByteArray }) || (toA a).snd == (2 : Int) || (toA b).snd == (2 : Int)) = false → (((toA b).snd != (0 : Int)) = true → ((toA (a ++ { data := #[(46 : UInt8)] : ByteArray } ++ b)).snd == (toA b).snd) = true) ∧ (((toA b).snd != (0 : Int)) = false → in64 ((↑(toA a).fst.size : Int) + (1 : Int)) ∧ in64 ((↑(toA a).fst.size : Int) + (1 : Int) + (↑(toA b).fst.size : Int)) ∧ ((!(decide ((↑(toA a).fst.size : Int) + (1 : Int) + (↑(toA b).fst.size : Int) > (253 : Int)) && (toA (a ++ { data := #[(46 : UInt8)] : ByteArray } ++ b)).snd == (2 : Int)) && (toA (a ++ { data := #[(46 : UInt8)] : ByteArray } ++ b)).snd == (0 : Int)) = true → (toA a).fst.size + (1 : Nat) ≤ (9223372036854775807 : Nat)) ∧ ((!(decide ((↑(toA a).fst.size : Int) + (1 : Int) + (↑(toA b).fst.size : Int) > (253 : Int)) && (toA (a ++ { data := #[(46 : UInt8)] : ByteArray } ++ b)).snd == (2 : Int)) && (toA (a ++ { data := #[(46 : UInt8)] : ByteArray } ++ b)).snd == (0 : Int)) = true → ((toA a).fst ++ { data := #[(46 : UInt8)] : ByteArray }).size + (toA b).fst.size ≤ (9223372036854775807 : Nat)) ∧ (decide ((↑(toA a).fst.size : Int) + (1 : Int) + (↑(toA b).fst.size : Int) > (253 : Int)) && (toA (a ++ { data := #[(46 : UInt8)] : ByteArray } ++ b)).snd == (2 : Int) || (toA (a ++ { data := #[(46 : UInt8)] : ByteArray } ++ b)).snd == (0 : Int) && decide ((toA (a ++ { data := #[(46 : UInt8)] : ByteArray } ++ b)).fst = (toA a).fst ++ { data := #[(46 : UInt8)] : ByteArray } ++ (toA b).fst)) = true)))))
theorem parV_eq (a b : ByteArray) : parV a b = (funC cxL Tryd.f7 .nil [XT a, XT b] (XB true)) := by kernel_rfl
/-- So many signs a. -/
def rpA : Nat → ByteArray
  | 0 => ⟨#[]⟩
  | i + 1 => rpA i ++ ⟨#[97]⟩
def rpS (x : ByteArray) : Nat → ByteArray
  | 0 => ⟨#[]⟩
  | i + 1 => (if 0 < i then rpS x i ++ ⟨#[46]⟩ else rpS x i) ++ x
def lnN (n : Int) : Int := bits .and .i64 n 127 + 1
def lnM (m : Int) : Int := bits .and .i64 m 7 + 1
def lnI0 (n m : Int) : Inv where
  σ := IL
  S := fun x => ⟨[(0, XI (lnN n)), (1, XI (lnM m)), (5, XT (rpA x.i)), (18, XI (lnN n)), (19, XI x.i)], [], 0, false, []⟩
  inv := fun x => (x.i : Int) ≤ lnN n
  μ := fun x => (lnN n).toNat - x.i
def lnI2 (n m : Int) : Inv where
  σ := IL
  S := fun x => ⟨[(0, XI (lnN n)), (1, XI (lnM m)), (5, XT (rpA (lnN n).toNat)), (6, XT (rpS (rpA (lnN n).toNat) x.i)), (24, XI (lnM m)), (25, XI x.i)], [], 0, false, []⟩
  inv := fun x => (x.i : Int) ≤ lnM m
  μ := fun x => (lnM m).toNat - x.i
def lnE (n m : Int) : Env := { loops := [(0, lnI0 n m), (2, lnI2 n m)] }
def lonV (n m : Int) : Prop :=
  ((!true) = true → false = true) ∧ ((!true) = false → in64 (bits BinOp.and IntKind.i64 n (127 : Int) + (1 : Int)) ∧ in64 (bits BinOp.and IntKind.i64 m (7 : Int) + (1 : Int)) ∧ (∃ (x : (lnI0 n m).σ), (lnN n - (↑x.i : Int)).NonNeg ∧ true = true ∧ bits BinOp.and IntKind.i64 n (127 : Int) + (1 : Int) = lnN n ∧ bits BinOp.and IntKind.i64 m (7 : Int) + (1 : Int) = lnM m ∧ { data := #[] : ByteArray } = rpA x.i ∧ bits BinOp.and IntKind.i64 n (127 : Int) + (1 : Int) = lnN n ∧ (0 : Int) = (↑x.i : Int) ∧ True) ∧ ∀ (x : IL), (lnN n - (↑x.i : Int)).NonNeg → (decide ((↑x.i : Int) < lnN n) = true → (rpA x.i).size + (1 : Nat) ≤ (9223372036854775807 : Nat) ∧ in64 ((↑x.i : Int) + (1 : Int)) ∧ ∃ (x' : (lnI0 n m).σ), (lnN n - (↑x'.i : Int)).NonNeg ∧ (lnN n).toNat - x'.i < (lnN n).toNat - x.i ∧ true = true ∧ lnN n = lnN n ∧ lnM m = lnM m ∧ rpA x.i ++ { data := #[(97 : UInt8)] : ByteArray } = rpA x'.i ∧ lnN n = lnN n ∧ (↑x.i : Int) + (1 : Int) = (↑x'.i : Int) ∧ True) ∧ (decide ((↑x.i : Int) < lnN n) = false → (∃ (x_1 : (lnI2 n m).σ), (lnM m - (↑x_1.i : Int)).NonNeg ∧ true = true ∧ lnN n = lnN n ∧ lnM m = lnM m ∧ rpA x.i = rpA (lnN n).toNat ∧ { data := #[] : ByteArray } = rpS (rpA (lnN n).toNat) x_1.i ∧ lnM m = lnM m ∧ (0 : Int) = (↑x_1.i : Int) ∧ True) ∧ ∀ (x : IL), (lnM m - (↑x.i : Int)).NonNeg → (decide ((↑x.i : Int) < lnM m) = true → (decide ((↑x.i : Int) > (0 : Int)) = true → (rpS (rpA (lnN n).toNat) x.i).size + (1 : Nat) ≤ (9223372036854775807 : Nat) ∧ (rpS (rpA (lnN n).toNat) x.i ++ { data := #[(46 : UInt8)] : ByteArray }).size + (rpA (lnN n).toNat).size ≤ (9223372036854775807 : Nat) ∧ in64 ((↑x.i : Int) + (1 : Int)) ∧ ∃ (x' : (lnI2 n m).σ), (lnM m - (↑x'.i : Int)).NonNeg ∧ (lnM m).toNat - x'.i < (lnM m).toNat - x.i ∧ true = true ∧ lnN n = lnN n ∧ lnM m = lnM m ∧ rpA (lnN n).toNat = rpA (lnN n).toNat ∧ rpS (rpA (lnN n).toNat) x.i ++ { data := #[(46 : UInt8)] : ByteArray } ++ rpA (lnN n).toNat = rpS (rpA (lnN n).toNat) x'.i ∧ lnM m = lnM m ∧ (↑x.i : Int) + (1 : Int) = (↑x'.i : Int) ∧ True) ∧ (decide ((↑x.i : Int) > (0 : Int)) = false → (rpS (rpA (lnN n).toNat) x.i).size + (rpA (lnN n).toNat).size ≤ (9223372036854775807 : Nat) ∧ in64 ((↑x.i : Int) + (1 : Int)) ∧ ∃ (x' : (lnI2 n m).σ), (lnM m - (↑x'.i : Int)).NonNeg ∧ (lnM m).toNat - x'.i < (lnM m).toNat - x.i ∧ true = true ∧ lnN n = lnN n ∧ lnM m = lnM m ∧ rpA (lnN n).toNat = rpA (lnN n).toNat ∧ rpS (rpA (lnN n).toNat) x.i ++ rpA (lnN n).toNat = rpS (rpA (lnN n).toNat) x'.i ∧ lnM m = lnM m ∧ (↑x.i : Int) + (1 : Int) = (↑x'.i : Int) ∧ True)) ∧ (decide ((↑x.i : Int) < lnM m) = false → ((decide (lnN n > (63 : Int)) && decide ((↑(rpS (rpA (lnN n).toNat) x.i).size : Int) ≤ (1012 : Int))) = true → ((toA (rpS (rpA (lnN n).toNat) x.i)).snd == (1 : Int)) = true) ∧ ((decide (lnN n > (63 : Int)) && decide ((↑(rpS (rpA (lnN n).toNat) x.i).size : Int) ≤ (1012 : Int))) = false → (decide ((↑(rpS (rpA (lnN n).toNat) x.i).size : Int) > (253 : Int)) = true → ((toA (rpS (rpA (lnN n).toNat) x.i)).snd == (2 : Int)) = true) ∧ (decide ((↑(rpS (rpA (lnN n).toNat) x.i).size : Int) > (253 : Int)) = false → (((toA (rpS (rpA (lnN n).toNat) x.i)).snd == (0 : Int)) = true → ((toA (rpS (rpA (lnN n).toNat) x.i)).snd == (0 : Int)) = true) ∧ (((toA (rpS (rpA (lnN n).toNat) x.i)).snd == (0 : Int)) = true → ((toA (rpS (rpA (lnN n).toNat) x.i)).snd == (0 : Int)) = true) ∧ (((toA (rpS (rpA (lnN n).toNat) x.i)).snd == (0 : Int)) = true → ((toA (rpS (rpA (lnN n).toNat) x.i)).snd == (0 : Int)) = true) ∧ ((toA (rpS (rpA (lnN n).toNat) x.i)).snd == (0 : Int) && decide ((toA (rpS (rpA (lnN n).toNat) x.i)).fst = rpS (rpA (lnN n).toNat) x.i)) = true)))))
theorem lonV_eq (n m : Int) : lonV n m = (funC cxL Tryd.f9 (mkSc (lnE n m) (bodyOf Tryd.f9)) [XI n, XI m] (XB true)) := by kernel_rfl
end Go.Proofs.YtedmgnhbfpjceaaDoorAv
set_option linter.unusedVariables false
set_option linter.unusedSimpArgs false
set_option maxRecDepth 100000
namespace Go.Proofs.YtedmgnhbfpjceaaDoorAv
open Go Go.RowKit
/-- A label beyond ASCII. -/
def aN (t : List UInt8) : List UInt8 × Int := ((ascL (rns (mk8 t))).1.data.toList, (ascL (rns (mk8 t))).2)
def aS (t : List UInt8) : List UInt8 × Int :=
  if plaL t then
    if rgtL t = false then ([], 1)
    else if xnL.isPrefixOf t then (t, (uL t).2) else (t, 0)
  else if validB (mk8 t) = false then ([], 1)
  else aN t
theorem low_mk8 (x : List UInt8) : lowT (mk8 x) = mk8 (x.map lowc) := by
  rw [← data_mk8 (lowT (mk8 x)), lowT_list, mk8_data]
theorem aL_aS (x : List UInt8) : aL x = aS (x.map lowc) := by
  unfold aL lf
  rw [ascR, low_mk8, ascS, pla_list, rgt_list, hasPre_list, mk8_data, aS]
  split
  · split
    · rfl
    · split
      · rfl
      · rfl
  · split
    · rfl
    · rfl
theorem eR_snd (F : List UInt8 → List UInt8 × Int) (l : List (List UInt8)) : (eR F l).2 = ee (fun x => (F x).2) l := by
  rw [eR]
  split
  · rfl
  · rename_i h; simp at h; exact h.symm
theorem eR_congr {F G : List UInt8 → List UInt8 × Int} {l : List (List UInt8)} (h : ∀ x ∈ l, F x = G x) : eR F l = eR G l := by
  have e1 : ee (fun x => (F x).2) l = ee (fun x => (G x).2) l := ee_congr fun x hx => by rw [h x hx]
  have e2 : l.map (fun x => (F x).1) = l.map fun x => (G x).1 := List.map_congr_left fun x hx => by rw [h x hx]
  rw [eR, eR, e1, e2]
theorem eR_map (F : List UInt8 → List UInt8 × Int) (g : List UInt8 → List UInt8) (l : List (List UInt8)) : eR F (l.map g) = eR (fun x => F (g x)) l := by
  rw [eR, eR, ee_map, List.map_map]
  rfl
theorem eR_ok {F : List UInt8 → List UInt8 × Int} {l : List (List UInt8)} (h : ee (fun x => (F x).2) l = 0) : eR F l = (join46 (l.map fun x => (F x).1), 0) := by rw [eR, if_neg (by rw [h]; simp)]
theorem eR_err {F : List UInt8 → List UInt8 × Int} {l : List (List UInt8)} (h : ee (fun x => (F x).2) l ≠ 0) : eR F l = ([], ee (fun x => (F x).2) l) := by rw [eR, if_pos h]
/-- A name that is not too long, by its labels. -/
def tL (l : List (List UInt8)) : List UInt8 × Int := if (eR aL l).2 = 0 ∧ (eR aL l).1.length > 253 then ([], 2) else eR aL l
theorem tA_tL {s : List UInt8} (h : s.length ≤ 1012) : tA s = tL (LL s) := by rw [tA, if_neg (by omega), tL]
theorem LL_no {s : List UInt8} (h : ∀ t, s ≠ t ++ [46]) : LL s = split1 46 s := by unfold LL; rw [trim46_no h]
theorem no_dot {s : ByteArray} (h : (!decide (s = ⟨#[]⟩) && sbyte s ((s.size : Int) - 1) == 46) = false) : ∀ t, s.data.toList ≠ t ++ [46] := by
  intro t ht
  have hl : s.data.toList.length = t.length + 1 := by rw [ht, List.length_append]; rfl
  have hs : s.size = t.length + 1 := by rw [size_data]; exact hl
  have e1 : decide (s = ⟨#[]⟩) = false := by rw [emp_iff, decide_eq_false_iff_not]; omega
  have e2 : sbyte s ((s.size : Int) - 1) = 46 := by
    unfold sbyte
    rw [show ((s.size : Int) - 1).toNat = t.length by omega, ht, List.getD_eq_getElem?_getD]
    simp
  rw [e1, e2] at h
  cases h
theorem upc_ne {f : UInt8 → UInt8} (hf : ∀ c, f c = 46 ↔ c = 46) {s : List UInt8} (h : ∀ t, s ≠ t ++ [46]) : ∀ t, s.map f ≠ t ++ [46] := by
  intro t ht
  obtain ⟨a, b, e1, e2, e3⟩ := List.map_eq_append_iff.1 ht
  obtain ⟨c, rfl, e4⟩ : ∃ c, b = [c] ∧ f c = 46 := by
    cases b with
    | nil => simp at e3
    | cons c b =>
      cases b with
      | nil => exact ⟨c, rfl, by simpa using e3⟩
      | cons _ _ => simp at e3
  rw [(hf c).1 e4] at e1
  exact h a e1
/-! NameCapitals -/
def upc (c : UInt8) : UInt8 := if 97 ≤ c.toNat ∧ c.toNat ≤ 122 then c - 32 else c
theorem upc_nat (c : UInt8) : (upc c).toNat = if 97 ≤ c.toNat ∧ c.toNat ≤ 122 then c.toNat - 32 else c.toNat := by
  unfold upc
  split
  · rw [UInt8.toNat_sub_of_le]
    · rfl
    · rw [UInt8.le_iff_toNat_le]; show 32 ≤ _; omega
  · rfl
theorem upc_dot (c : UInt8) : upc c = 46 ↔ c = 46 := by
  rw [← UInt8.toNat_inj, ← UInt8.toNat_inj, upc_nat]
  have : (46 : UInt8).toNat = 46 := rfl
  by_cases h : 97 ≤ c.toNat ∧ c.toNat ≤ 122
  · rw [if_pos h]; omega
  · rw [if_neg h]
theorem low_up (c : UInt8) : lowc (upc c) = lowc c := by
  apply UInt8.toNat_inj.1
  rw [lowc_nat, lowc_nat, upc_nat]
  by_cases h : 97 ≤ c.toNat ∧ c.toNat ≤ 122
  · rw [if_pos h, if_pos (by omega), if_neg (by omega)]; omega
  · rw [if_neg h]
theorem upT_list (s : ByteArray) : (upT s).data.toList = s.data.toList.map upc := by
  have e : (upT s).data.toList = (List.range s.size).map fun j => UInt8.ofNat (upB s s.size (0 + j)).toNat := rfl
  rw [e, size_data]
  have := map_range s.data.toList 0 upc
  rw [← this]
  apply List.map_congr_left
  intro j hj
  have hj : j < s.data.toList.length := List.mem_range.1 hj
  apply UInt8.toNat_inj.1
  rw [Nat.zero_add, upc_nat, UInt8.toNat_ofNat']
  unfold upB
  rw [sbyte_nat]
  have hb := UInt8.toNat_lt (s.data.toList.getD j 0)
  by_cases h : 97 ≤ (s.data.toList.getD j 0).toNat ∧ (s.data.toList.getD j 0).toNat ≤ 122
  · rw [if_pos h, if_pos ⟨hj, by omega⟩, w8]; omega
  · rw [if_neg h, if_neg]
    · omega
    · rintro ⟨-, h2⟩
      omega
theorem toA_up {s : ByteArray} (h : ∀ t, s.data.toList ≠ t ++ [46]) : toA (upT s) = toA s := by
  have e : tA (upT s).data.toList = tA s.data.toList := by
    rw [upT_list, tA, tA, List.length_map, LL_no h, LL_no (upc_ne upc_dot h), split1_map upc upc_dot, eR_map]
    have : eR (fun x => aL (x.map upc)) (split1 46 s.data.toList) = eR aL (split1 46 s.data.toList) := eR_congr fun x _ => by
      rw [aL_aS, aL_aS, List.map_map]
      congr 1
      apply List.map_congr_left
      intro c _
      exact low_up c
    rw [this]
  rw [toA_tA, toA_tA, e]
theorem toA_dot {s : ByteArray} (h : ∀ t, s.data.toList ≠ t ++ [46]) (hs : s.size ≤ 900) : toA (s ++ ptT) = toA s := by
  have e : tA (s ++ ptT).data.toList = tA s.data.toList := by
    have e1 : (s ++ ptT).data.toList = s.data.toList ++ [46] := by rw [ByteArray.data_append, Array.toList_append]; rfl
    rw [size_data] at hs
    rw [e1, tA_tL (by rw [List.length_append]; show _ + 1 ≤ _; omega), tA_tL (by omega)]
    congr 1
    unfold LL
    rw [trim46_dot, trim46_no h]
  rw [toA_tA, toA_tA, e]
theorem upB_at (s : ByteArray) (i : Nat) : upB s i i = sbyte s i := by unfold upB; rw [if_neg (by omega)]
theorem upB_no (s : ByteArray) (i j : Nat) (h : j ≠ i ∨ ¬ (97 ≤ sbyte s i ∧ sbyte s i ≤ 122)) : upB s (i + 1) j = upB s i j := by
  unfold upB
  by_cases e : j < i
  · have e2 : j < i + 1 := by omega
    simp only [e, e2]
  · by_cases e3 : j = i
    · subst e3
      rw [if_neg (fun k => (h.resolve_left (fun h => h rfl)) k.2), if_neg (by omega)]
    · rw [if_neg (by omega), if_neg (by omega)]
theorem upB_yes (s : ByteArray) (i : Nat) (h : 97 ≤ sbyte s i ∧ sbyte s i ≤ 122) : upB s (i + 1) i = IntKind.u8.wrap (sbyte s i - 32) := by
  unfold upB
  rw [if_pos ⟨by omega, h⟩]
theorem upB_b (s : ByteArray) (i j : Nat) : upB s i j = ((UInt8.ofNat (upB s i j).toNat).toNat : Int) := by
  have : 0 ≤ upB s i j ∧ upB s i j ≤ 255 := by
    unfold upB
    split
    · rw [w8]; omega
    · exact sb_rng _ _
  rw [UInt8.toNat_ofNat']
  omega
theorem cap_v (s : ByteArray) : capV s := by
  have hpos : (!decide (s = ⟨#[]⟩)) = true → 0 < s.size := fun h => by
    rw [emp_iff, Bool.not_eq_true', decide_eq_false_iff_not] at h; omega
  have hp2 : (!decide ((s.size : Int) > 900) && !decide (s = ⟨#[]⟩)) = true → 0 < s.size ∧ s.size ≤ 900 := fun h => by
    rw [Bool.and_eq_true] at h
    have h1 := h.1
    simp at h1
    exact ⟨hpos h.2, by omega⟩
  unfold capV
  refine ⟨fun h => absurd h (by decide), fun _ => ⟨fun h => ?_, fun h => ?_, fun h => ?_, fun _ => rfl, fun h => ?_⟩⟩
  · have := hp2 h; unfold in64; omega
  · have := hp2 h; omega
  · omega
  rw [Bool.or_eq_false_iff] at h
  obtain ⟨h1, h2⟩ := h
  have hs : s.size ≤ 900 := by have := of_decide_eq_false h1; omega
  have hnd := no_dot h2
  refine ⟨⟨⟨0⟩, Nat.zero_le _, rfl, rfl, rfl, rfl, rfl, rfl, ⟨⟨rfl, rfl, rfl⟩, rfl, fun j hj => by simp [upB]⟩, trivial⟩, ?_⟩
  rintro ⟨i⟩ hi
  have hi : i ≤ s.size := hi
  refine ⟨fun h => ?_, fun h => ?_⟩
  · have h : (i : Int) < s.size := of_decide_eq_true h
    have hz : 0 + (i : Int).toNat = i := by omega
    dsimp only
    rw [hz, upB_at]
    refine ⟨by omega, by omega, by omega, fun hc => ?_, fun hc => ?_⟩
    · simp only [Bool.and_eq_true, decide_eq_true_eq] at hc
      refine ⟨by omega, by omega, by omega, by unfold in64; omega, ⟨i + 1⟩, by show i + 1 ≤ s.size; omega, by show s.size - (i + 1) < s.size - i; omega, rfl, rfl, rfl, rfl, rfl, rfl, ⟨⟨rfl, rfl, rfl⟩, rfl, fun j hj => ?_⟩, trivial⟩
      dsimp only
      rw [beqN]
      by_cases e : j = i
      · subst e
        rw [decide_eq_true rfl, upB_yes s j hc]
        rfl
      · rw [decide_eq_false e, upB_no s i j (.inl e)]
        rfl
    · refine ⟨by unfold in64; omega, ⟨i + 1⟩, by show i + 1 ≤ s.size; omega, by show s.size - (i + 1) < s.size - i; omega, rfl, rfl, rfl, rfl, rfl, rfl, ⟨⟨rfl, rfl, rfl⟩, rfl, fun j hj => ?_⟩, trivial⟩
      rw [upB_no s i j (.inr (by simp only [Bool.and_eq_false_iff, decide_eq_false_iff_not] at hc; omega))]
  · have h : ¬ (i : Int) < s.size := of_decide_eq_false h
    obtain rfl : i = s.size := by omega
    have e1 : toA (txtOf s.size fun j => UInt8.ofNat (upB s s.size (0 + j)).toNat) = toA s := toA_up hnd
    have e2 : toA (s ++ ⟨#[46]⟩) = toA s := toA_dot hnd hs
    refine ⟨by omega, fun j hj => congrArg (fun z => [X8 z]) (upB_b s _ (0 + j)), by omega, ?_⟩
    show (decide ((toA s).1 = (toA (txtOf s.size fun j => UInt8.ofNat (upB s s.size (0 + j)).toNat)).1) && (toA s).2 == (toA (txtOf s.size fun j => UInt8.ofNat (upB s s.size (0 + j)).toNat)).2 && (decide ((toA s).1 = (toA (s ++ ⟨#[46]⟩)).1) && (toA s).2 == (toA (s ++ ⟨#[46]⟩)).2 || decide (s = ⟨#[]⟩))) = true
    rw [e1, e2]
    simp
end Go.Proofs.YtedmgnhbfpjceaaDoorAv
set_option linter.unusedVariables false
set_option linter.unusedSimpArgs false
set_option maxRecDepth 100000
namespace Go.Proofs.YtedmgnhbfpjceaaDoorAv
open Go Go.RowKit
theorem lastB_full (s : ByteArray) : (lastB s 45 = -1 ∧ ∀ j : Nat, j < s.size → sbyte s j ≠ 45) ∨ ∃ i : Nat, i < s.size ∧ lastB s 45 = i ∧ sbyte s i = 45 ∧ ∀ j : Nat, i < j → j < s.size → sbyte s j ≠ 45 := by
  have hb : ∀ j : Nat, j < s.size → ((s.data[j]!).toNat : Int) = sbyte s j := fun j hj => by
    unfold sbyte
    rw [size_data] at hj
    rw [Int.toNat_natCast, List.getD_eq_getElem?_getD, List.getElem?_eq_getElem hj]
    have h1' : j < s.data.size := by simpa using hj
    rw [getElem!_pos s.data j h1']
    rfl
  rcases Lib.lastIndexByte_spec s 45 with ⟨h, h2⟩ | ⟨i, h1, h2, h3, h4⟩
  · exact .inl ⟨h, fun j hj => by rw [← hb j hj]; exact h2 j hj⟩
  · exact .inr ⟨i, h1, h2, by rw [← hb i h1]; exact h3, fun j hj hj2 => by rw [← hb j hj2]; exact h4 j hj hj2⟩
theorem txtO_byte {o : List Int} (h : oOK o) (j : Nat) (hj : j < o.length) : sbyte (txtO o) j = o.getD j 0 := by
  unfold sbyte
  rw [Int.toNat_natCast, txtO_list, List.getD_eq_getElem?_getD, List.getElem?_map, List.getElem?_eq_getElem hj, List.getD_eq_getElem?_getD, List.getElem?_eq_getElem hj]
  have := h _ (List.getElem_mem hj)
  simp only [Option.map_some, Option.getD_some]
  rw [UInt8.toNat_ofNat']
  omega
theorem map_toB_nat {o : List Int} (h : oOK o) : (o.map toB).map (fun c => (c.toNat : Int)) = o := by
  rw [List.map_map]
  conv => rhs; rw [← List.map_id o]
  apply List.map_congr_left
  intro x hx
  have := h x hx
  exact toB_nat this.1 (by omega)
theorem eqf_refl : ∀ l : List UInt8, Lib.equalFold l l = true
  | [] => rfl
  | c :: l => by
    rw [Lib.equalFold, eqf_refl l, Bool.and_true]
    unfold Lib.foldEq
    simp
/-- Encode gives each rune a sign of its own. -/
theorem fol_len (g : Nat → Int) (h0 m : Int) (s : ES) (h : s.h ≤ s.o.length) : ∀ i, (fol g h0 m s i).h ≤ (fol g h0 m s i).o.length
  | 0 => h
  | i + 1 => by
    have ih := fol_len g h0 m s h i
    have e : fol g h0 m s (i + 1) = stp h0 m (fol g h0 m s i) (g i) := rfl
    rw [e]
    rcases Int.lt_trichotomy (g i) m with k | k | k
    · rw [stp_lt _ _ _ _ k]; exact ih
    · rw [stp_eq _ _ _ _ k]
      have : 1 ≤ (num (fol g h0 m s i).d (fol g h0 m s i).b).length := by
        cases hn : num (fol g h0 m s i).d (fol g h0 m s i).b with
        | nil => exact absurd hn (num_ne _ _)
        | cons a t => simp
      show (fol g h0 m s i).h + 1 ≤ (((fol g h0 m s i).o ++ num (fol g h0 m s i).d (fol g h0 m s i).b).length : Int)
      rw [List.length_append]; omega
    · rw [stp_gt _ _ _ _ k]; exact ih
theorem encG_len {q : Sq Int} {h0 : Int} (hn : q.n ≤ 2000) (hg : ∀ i, i < q.n → 0 ≤ q.g i ∧ q.g i ≤ 1114111) : ∀ (f : Nat) (n : Int) (s : ES), OK2 q h0 ⟨n, s, f⟩ → s.h ≤ s.o.length → ∀ o, encG q.g q.n h0 f n s = (o, 0) → q.n ≤ o.length := by
  intro f
  induction f with
  | zero =>
    intro n s hK h o ho
    by_cases h3 : s.o.length > 63
    · rw [encG_stop h3] at ho; exact absurd (show (2 : Int) = 0 from congrArg Prod.snd ho) (by decide)
    · have h1 := hK.f.1
      have h2 : ¬ s.h < q.n := by
        have h1 : (q.n : Int) - s.h ≤ (0 : Nat) := h1
        omega
      rw [encG_end h3 h2] at ho
      have : s.o = o := congrArg Prod.fst ho
      rw [← this]; omega
  | succ f ih =>
    intro n s hK h o ho
    by_cases h3 : s.o.length > 63
    · rw [encG_stop h3] at ho; exact absurd (show (2 : Int) = 0 from congrArg Prod.snd ho) (by decide)
    · by_cases h2 : s.h < q.n
      · rw [encG_go h3 h2] at ho
        exact ih _ _ (hK.step hn hg h2 h3).1 (fol_len q.g h0 (mnr q.g n q.n) { s with d := s.d + (mnr q.g n q.n - n) * (s.h + 1) } h q.n) o ho
      · rw [encG_end h3 h2] at ho
        have : s.o = o := congrArg Prod.fst ho
        rw [← this]; omega
theorem encR_len {l : List Int} (hl : l.length ≤ 2000) (hg : ∀ r ∈ l, 0 ≤ r ∧ r ≤ 1114111) {o : List Int} (ho : encR (fun j => l.getD j 0) l.length = (o, 0)) : l.length ≤ o.length := by
  have hg' : ∀ i, i < l.length → 0 ≤ l.getD i 0 ∧ l.getD i 0 ≤ 1114111 := fun i hi => by
    rw [List.getD_eq_getElem?_getD, List.getElem?_eq_getElem hi]
    exact hg _ (List.getElem_mem hi)
  have hs := OK2.start (q := ⟨l.length, fun j => l.getD j 0⟩) hl hg'
  refine encG_len (q := ⟨l.length, fun j => l.getD j 0⟩) hl hg' _ _ _ hs ?_ o ho
  show ((eo0 (fun j => l.getD j 0) l.length).length : Int) ≤ ((eo1 (fun j => l.getD j 0) l.length).length : Int)
  unfold eo1
  split
  · rw [List.length_append]; omega
  · omega
/-- What Encode writes is read as the runes. -/
theorem decR_enc {l : List Int} (hl : l.length ≤ 63) (hg : ∀ r ∈ l, 0 ≤ r ∧ r < 2000) {o : List Int} (ho : encR (fun j => l.getD j 0) l.length = (o, 0)) : decR (txtO o) = (l, 0) := by
  have hg' : ∀ i, i < l.length → 0 ≤ l.getD i 0 ∧ l.getD i 0 ≤ 1114111 := fun i hi => by
    rw [List.getD_eq_getElem?_getD, List.getElem?_eq_getElem hi]
    have := hg _ (List.getElem_mem hi)
    exact ⟨this.1, by show l[i] ≤ _; omega⟩
  obtain ⟨k', dg, e1, e2, e3, e4⟩ := encR_RI hl hg ho
  have hok := encR_ok (q := ⟨l.length, fun j => l.getD j 0⟩) (by show l.length ≤ 2000; omega) hg'
  dsimp only at hok
  rw [ho] at hok
  obtain ⟨o1, o2⟩ := hok
  dsimp only at o1 o2
  have hsz := txtO_size o
  have hdg : ∀ x ∈ dg, x ≠ 45 := fun x hx => by rcases e3 x hx with h | h <;> omega
  generalize he0 : eo0 (fun j => l.getD j 0) l.length = e0 at *
  have hby : ∀ j : Nat, j < o.length → sbyte (txtO o) j = o.getD j 0 := fun j hj => txtO_byte o1 j hj
  have fin : ∀ p : Nat, lst (txtO o) p = dg.map toB → dcG ((txtO o).size + 1) (lst (txtO o) p) 128 0 72 e0 = some l := fun p hp => by
    rw [hp, hsz, show o.length + 1 = (o.length + 1 - k') + k' by
      have : dg.length ≤ o.length := by rw [e1, List.length_append]; omega
      omega]
    exact e4 _
  have done : decK (txtO o) (some l) = (l, 0) := by
    rw [decK, if_neg]
    rw [ho]
    rintro (h | h)
    · exact h rfl
    · have : eqfB (txtO o) (txtO o) = true := eqf_refl _
      rw [this] at h; cases h
  have hpr : ∀ m : Nat, m ≤ o.length → ¬ ∃ j, j < m ∧ sbyte (txtO o) (j : Nat) ≥ 128 := by
    rintro m hm ⟨j, h1, h2⟩
    rw [hby j (by omega)] at h2
    have := o1 (o.getD j 0) (by rw [List.getD_eq_getElem?_getD, List.getElem?_eq_getElem (by omega)]; exact List.getElem_mem _)
    omega
  rw [decR, if_neg (by omega)]
  have hu : eo1 (fun j => l.getD j 0) l.length = if 0 < e0.length then e0 ++ [45] else e0 := by unfold eo1; rw [he0]
  rw [hu] at e1
  by_cases h0 : 0 < e0.length
  · rw [if_pos h0] at e1
    have eo : o = e0 ++ 45 :: dg := by rw [e1, List.append_assoc]; rfl
    have hp : e0.length < o.length := by rw [eo, List.length_append, List.length_cons]; omega
    have hat : sbyte (txtO o) (e0.length : Nat) = 45 := by
      rw [hby _ hp, eo, List.getD_eq_getElem?_getD, List.getElem?_append_right (Nat.le_refl _)]; simp
    have hafter : ∀ j : Nat, e0.length < j → j < (txtO o).size → sbyte (txtO o) j ≠ 45 := fun j h1 h2 => by
      rw [hsz] at h2
      rw [hby j h2, eo, List.getD_eq_getElem?_getD, List.getElem?_append_right (by omega), show j - e0.length = (j - e0.length - 1) + 1 by omega, List.getElem?_cons_succ]
      rw [eo, List.length_append, List.length_cons] at h2
      rw [List.getElem?_eq_getElem (by omega)]
      exact hdg _ (List.getElem_mem _)
    have hL : lastB (txtO o) 45 = e0.length := by
      rcases lastB_full (txtO o) with ⟨h1, h2⟩ | ⟨i, h1, h2, h3, h4⟩
      · exact absurd hat (h2 e0.length (by omega))
      · rcases Nat.lt_trichotomy i e0.length with k | k | k
        · exact absurd hat (h4 e0.length k (by omega))
        · rw [h2, k]
        · exact absurd h3 (hafter i k h1)
    have him : (imax (lastB (txtO o) 45) 0).toNat = e0.length := by rw [hL]; unfold imax; split <;> omega
    rw [him, if_neg (hpr _ (by omega)), hL]
    have hpre : preL (txtO o) e0.length = e0 := by
      unfold preL
      rw [txtO_list, eo, ← List.map_take, List.take_left']
      · exact map_toB_nat (o := e0) fun x hx => o1 x (by rw [eo]; simp [hx])
      · rfl
    have hlst : lst (txtO o) ((e0.length : Int) + 1).toNat = dg.map toB := by
      unfold lst
      rw [show ((e0.length : Int) + 1).toNat = e0.length + 1 by omega, txtO_list, eo, ← List.map_drop, ← List.drop_drop, List.drop_left']
      · rfl
      · rfl
    rw [hpre, fin _ hlst, done]
  · rw [if_neg h0] at e1
    have e00 : e0 = [] := List.length_eq_zero_iff.1 (by omega)
    have eo : o = dg := by rw [e1, e00]; rfl
    have hL : lastB (txtO o) 45 = -1 := by
      rcases lastB_full (txtO o) with ⟨h1, h2⟩ | ⟨i, h1, h2, h3, h4⟩
      · exact h1
      · rw [hsz] at h1
        rw [hby i h1, List.getD_eq_getElem?_getD, List.getElem?_eq_getElem h1] at h3
        exact absurd h3 (hdg _ (by rw [← eo]; exact List.getElem_mem h1))
    have him : (imax (lastB (txtO o) 45) 0).toNat = 0 := by rw [hL]; rfl
    rw [him, if_neg (hpr _ (Nat.zero_le _)), hL]
    have hpre : preL (txtO o) 0 = e0 := by rw [e00]; rfl
    have hlst : lst (txtO o) ((-1 : Int) + 1).toNat = dg.map toB := by
      unfold lst
      rw [txtO_list, ← eo]
      rfl
    rw [hpre, fin _ hlst, done]
/-! What Decode's runes are -/
theorem dnG_ge (b : Int) : ∀ (l : List UInt8) (i w k : Int) (l' : List UInt8) (j : Int), 0 ≤ w → dnG b l i w k = some (l', j) → i ≤ j
  | [], i, w, k, l', j, _, h => by simp [dnG] at h
  | c :: l, i, w, k, l', j, hw, h => by
    have hv := vlu_rng (c.toNat : Int)
    have ht := thr_rng k b
    have hm : 0 ≤ vlu c.toNat * w := Int.mul_nonneg hv.1 hw
    rw [dnG] at h
    split at h
    · cases h
    · split at h
      · simp only [Option.some.injEq, Prod.mk.injEq] at h
        omega
      · have := dnG_ge b l _ _ _ l' j (Int.mul_nonneg hw (by omega)) h
        omega
theorem dcG_mem : ∀ (f : Nat) (l : List UInt8) (n i b : Int) (o o' : List Int), 128 ≤ n → 0 ≤ i → dcG f l n i b o = some o' → ∀ r ∈ o', r ∈ o ∨ 128 ≤ r
  | f, [], n, i, b, o, o', _, _, h => by
    have : dcG f [] n i b o = some o := by cases f <;> rfl
    rw [this] at h
    obtain rfl := Option.some.inj h
    exact fun r hr => .inl hr
  | 0, c :: l, n, i, b, o, o', _, _, h => by simp [dcG] at h
  | f + 1, c :: l, n, i, b, o, o', hn, hi, h => by
    rw [dcG_cons] at h
    cases hd : dnG b (c :: l) i 1 36 with
    | none => rw [hd] at h; cases h
    | some r =>
      obtain ⟨l', j⟩ := r
      rw [hd, dcN] at h
      split at h
      · cases h
      · have h1 := dnG_ge b _ _ _ _ _ _ (by decide) hd
        have hq : 0 ≤ j / ((o.length : Int) + 1) := Int.ediv_nonneg (by omega) (by omega)
        have hr1 : 0 ≤ j % ((o.length : Int) + 1) := Int.emod_nonneg _ (by omega)
        intro r hr
        rcases dcG_mem f l' _ _ _ _ o' (by omega) (by omega) h r hr with k | k
        · rcases List.mem_append.1 k with k | k
          · exact .inl (List.mem_of_mem_take k)
          · rcases List.mem_cons.1 k with rfl | k
            · right; omega
            · exact .inl (List.mem_of_mem_drop k)
        · exact .inr k
/-- What is read well: its runes; that they are written so. -/
theorem decR_facts {s : ByteArray} (h : (decR s).2 = 0) : (∀ r ∈ (decR s).1, (∃ c ∈ s.data.toList, r = (c.toNat : Int)) ∨ 128 ≤ r) ∧ (encR (fun j => (decR s).1.getD j 0) (decR s).1.length).2 = 0 ∧ eqfB (txtO (encR (fun j => (decR s).1.getD j 0) (decR s).1.length).1) s = true := by
  rw [decR] at h ⊢
  split at h
  · exact absurd h (by decide)
  · rename_i h63
    rw [if_neg h63]
    split at h
    · exact absurd h (by decide)
    · rename_i h2
      rw [if_neg h2]
      cases hd : dcG (s.size + 1) (lst s (lastB s 45 + 1).toNat) 128 0 72 (preL s (imax (lastB s 45) 0).toNat) with
      | none => rw [hd, decK] at h; exact absurd h (by decide)
      | some o =>
        rw [hd, decK] at h
        rw [decK]
        by_cases hc : (encR (fun j => o.getD j 0) o.length).2 ≠ 0 ∨ eqfB (txtO (encR (fun j => o.getD j 0) o.length).1) s = false
        · rw [if_pos hc] at h; exact absurd h (by decide)
        · rw [if_neg hc]
          refine ⟨fun r hr => ?_, ?_, ?_⟩
          · rcases dcG_mem _ _ _ _ _ _ _ (Int.le_refl _) (Int.le_refl _) hd r hr with k | k
            · left
              unfold preL at k
              obtain ⟨c, hc, rfl⟩ := List.mem_map.1 k
              exact ⟨c, List.mem_of_mem_take hc, rfl⟩
            · exact .inr k
          · by_cases e : (encR (fun j => o.getD j 0) o.length).2 = 0
            · exact e
            · exact absurd (.inl e) hc
          · cases e : eqfB (txtO (encR (fun j => o.getD j 0) o.length).1) s
            · exact absurd (.inr e) hc
            · rfl
end Go.Proofs.YtedmgnhbfpjceaaDoorAv
set_option linter.unusedVariables false
set_option linter.unusedSimpArgs false
set_option maxRecDepth 100000
namespace Go.Proofs.YtedmgnhbfpjceaaDoorAv
open Go Go.RowKit
def rnL : Nat → List UInt8 → List Int
  | 0, _ => []
  | f + 1, l => if l = [] then [] else ((Lib.decodeL l).1 : Int) :: rnL f (l.drop (Lib.decodeL l).2)
theorem rnG_rnL (s : ByteArray) : ∀ f p, rnG s f p = rnL f (s.data.toList.drop p)
  | 0, _ => rfl
  | f + 1, p => by
    have hs := size_data s
    rw [rnG, rnL]
    by_cases h : p < s.size
    · rw [if_pos h, if_neg (by intro e; have := congrArg List.length e; rw [List.length_drop] at this; simp at this; omega), Lib.decodeL_drop, rnG_rnL s f, List.drop_drop]
    · rw [if_neg h, if_pos (List.drop_eq_nil_of_le (by omega))]
theorem rns_rnL (s : ByteArray) : rns s = rnL s.data.toList.length s.data.toList := by
  unfold rns
  rw [rnG_rnL, size_data]
  rfl
/-- A rune's bytes. -/
def e8 (r : Int) : List UInt8 := (Utf8.encode r).data.toList
theorem val_lt {r : Int} (h0 : 0 ≤ r) (h1 : r < 2048) : Utf8.valid r = true := by
  unfold Utf8.valid
  rw [decide_eq_true h0, decide_eq_true (show r < 55296 by omega)]
  rfl
theorem e8_lt {r : Int} (h0 : 0 ≤ r) (h1 : r < 128) : e8 r = [UInt8.ofNat r.toNat] := by
  unfold e8 Utf8.encode
  rw [val_lt h0 (by omega), if_pos rfl]
  dsimp only
  rw [if_pos (by omega)]
theorem e8_two {r : Int} (h0 : 128 ≤ r) (h1 : r < 2048) : e8 r = [UInt8.ofNat (192 + r.toNat / 64), UInt8.ofNat (128 + r.toNat % 64)] := by
  unfold e8 Utf8.encode
  rw [val_lt (by omega) h1, if_pos rfl]
  dsimp only
  rw [if_neg (by omega), if_pos (by omega)]
def okR (r : Int) : Prop := 0 ≤ r ∧ r < 2048
theorem e8_ne {r : Int} (h : okR r) : e8 r ≠ [] := by
  by_cases e : r < 128
  · rw [e8_lt h.1 e]; simp
  · rw [e8_two (by omega) h.2]; simp
theorem dec_e8 {r : Int} (h : okR r) (rest : List UInt8) : Lib.decodeL (e8 r ++ rest) = (r.toNat, (e8 r).length) := by
  by_cases e : r < 128
  · rw [e8_lt h.1 e, List.singleton_append, Lib.decodeL_ascii]
    · rw [UInt8.toNat_ofNat', show r.toNat % 2 ^ 8 = r.toNat by have := h.1; omega]; rfl
    · rw [UInt8.toNat_ofNat']; have := h.1; omega
  · have h2 := h.2
    rw [e8_two (by omega) h2, Lib.decodeL_N]
    have g0 : (([UInt8.ofNat (192 + r.toNat / 64), UInt8.ofNat (128 + r.toNat % 64)] ++ rest).getD 0 0).toNat = 192 + r.toNat / 64 := by
      show (UInt8.ofNat _).toNat = _
      rw [UInt8.toNat_ofNat']; omega
    have g1 : (([UInt8.ofNat (192 + r.toNat / 64), UInt8.ofNat (128 + r.toNat % 64)] ++ rest).getD 1 0).toNat = 128 + r.toNat % 64 := by
      show (UInt8.ofNat _).toNat = _
      rw [UInt8.toNat_ofNat']; omega
    rw [g0, g1]
    unfold Lib.decodeN
    rw [if_neg (by omega), if_pos ⟨by omega, by rw [List.length_append]; show 1 < 2 + _; omega, by omega⟩, if_pos (by omega)]
    show (_, 2) = (_, 2)
    congr 1
    omega
theorem rnL_enc : ∀ (l : List Int), (∀ r ∈ l, okR r) → ∀ f, l.length ≤ f → rnL f (l.flatMap e8) = l
  | [], _, f, _ => by cases f <;> rfl
  | r :: l, h, 0, hf => by simp at hf
  | r :: l, h, f + 1, hf => by
    have hr := h r (by simp)
    rw [List.flatMap_cons, rnL, if_neg (by simp [e8_ne hr]), dec_e8 hr]
    dsimp only
    rw [List.drop_left', rnL_enc l (fun x hx => h x (by simp [hx])) f (by simpa using hf)]
    · congr 1; have := hr.1; omega
    · rfl
theorem valid_enc : ∀ (l : List Int), (∀ r ∈ l, okR r) → Lib.validD (l.flatMap e8) = true
  | [], _ => rfl
  | r :: l, h => by
    have hr := h r (by simp)
    rw [List.flatMap_cons, Lib.validD_step _ (by simp [e8_ne hr]), dec_e8 hr, if_neg (by have := hr.2; dsimp only; omega)]
    dsimp only
    rw [List.drop_left', valid_enc l fun x hx => h x (by simp [hx])]
    rfl
theorem flat8_len {l : List Int} (h : ∀ r ∈ l, okR r) : l.length ≤ (l.flatMap e8).length := by
  induction l with
  | nil => simp
  | cons r l ih =>
    have h1 := ih fun x hx => h x (by simp [hx])
    have h2 : 1 ≤ (e8 r).length := List.length_pos_iff.2 (e8_ne (h r (by simp)))
    rw [List.flatMap_cons, List.length_append, List.length_cons]; omega
theorem encB_list (l : List Int) : (encB l).data.toList = l.flatMap e8 := by
  have : ∀ (l : List Int) (a : ByteArray), (l.foldl (fun r n => r ++ Utf8.encode n) a).data.toList = a.data.toList ++ l.flatMap e8 := by
    intro l
    induction l with
    | nil => intro a; simp
    | cons x l ih =>
      intro a
      rw [List.foldl_cons, ih, ByteArray.data_append, Array.toList_append, List.flatMap_cons, List.append_assoc]
      rfl
  exact this l ⟨#[]⟩
theorem rns_enc {l : List Int} (h : ∀ r ∈ l, okR r) : rns (mk8 (l.flatMap e8)) = l := by
  rw [rns_rnL, mk8_data, rnL_enc l h _ (flat8_len h)]
theorem validB_enc {l : List Int} (h : ∀ r ∈ l, okR r) : validB (mk8 (l.flatMap e8)) = true := valid_enc l h
/-! Runes of any text -/
theorem decN_small {n b0 b1 b2 b3 : Nat} (h : (Lib.decodeN n b0 b1 b2 b3).1 < 128) : b0 < 128 ∧ Lib.decodeN n b0 b1 b2 b3 = (b0, 1) := by
  unfold Lib.decodeN at h ⊢
  by_cases e : b0 < 128
  · rw [if_pos e]; exact ⟨e, rfl⟩
  · exfalso
    rw [if_neg e] at h
    repeat' split at h
    all_goals (dsimp only at h; omega)
theorem decL_small {b : UInt8} {t : List UInt8} (h : (Lib.decodeL (b :: t)).1 < 128) : b.toNat < 128 ∧ Lib.decodeL (b :: t) = (b.toNat, 1) := by
  rw [Lib.decodeL_N] at h ⊢
  exact decN_small h
theorem rnL_pla : ∀ (f : Nat) (l : List UInt8), l.length ≤ f → (∀ r ∈ rnL f l, r < 128) → plaL l = true
  | _, [], _, _ => rfl
  | 0, b :: t, h, _ => by simp at h
  | f + 1, b :: t, h, hr => by
    rw [rnL, if_neg (by simp)] at hr
    have h1 : (Lib.decodeL (b :: t)).1 < 128 := by have := hr _ (List.mem_cons_self ..); omega
    obtain ⟨h2, h3⟩ := decL_small h1
    rw [h3] at hr
    have ih := rnL_pla f t (by simpa using h) fun r k => hr r (List.mem_cons_of_mem _ k)
    unfold plaL at ih ⊢
    rw [List.all_cons, ih, decide_eq_true h2]; rfl
theorem rnL_mem : ∀ (f : Nat) (l : List UInt8), ∀ r ∈ rnL f l, 0 ≤ r ∧ r ≤ 1114111 ∧ (r < 128 → ∃ c ∈ l, r = (c.toNat : Int))
  | 0, l, r, h => by simp [rnL] at h
  | f + 1, [], r, h => by simp [rnL] at h
  | f + 1, b :: t, r, h => by
    rw [rnL, if_neg (by simp)] at h
    rcases List.mem_cons.1 h with rfl | h
    · have h1 := Lib.decodeL_rune (b :: t)
      refine ⟨by omega, by omega, fun k => ?_⟩
      obtain ⟨h2, h3⟩ := decL_small (show (Lib.decodeL (b :: t)).1 < 128 by omega)
      exact ⟨b, by simp, by rw [h3]⟩
    · obtain ⟨q1, q2, q3⟩ := rnL_mem f _ r h
      exact ⟨q1, q2, fun k => by obtain ⟨c, hc, e⟩ := q3 k; exact ⟨c, List.mem_of_mem_drop hc, e⟩⟩
theorem rnL_len : ∀ (f : Nat) (l : List UInt8), (rnL f l).length ≤ f
  | 0, l => Nat.le_refl _
  | f + 1, l => by
    rw [rnL]
    split
    · simp
    · have := rnL_len f (l.drop (Lib.decodeL l).2)
      simp only [List.length_cons]; omega
/-! Bad runes -/
theorem badC_ge {r : Int} (h : 128 ≤ r) : badC r = !good r := by
  unfold badC
  rw [decide_eq_true (show r ≥ 128 from h), decide_eq_false (show ¬ r < 128 by omega)]
  simp
theorem rgt_three : ∀ n : Fin 128, rgt (⟨#[97]⟩ ++ Utf8.encode (n.val : Int) ++ ⟨#[97]⟩) = okC (n.val : Int) := by decide +kernel
theorem badC_lt {r : Int} (h0 : 0 ≤ r) (h : r < 128) : badC r = !okC r := by
  obtain ⟨n, rfl⟩ : ∃ n : Nat, r = n := ⟨r.toNat, by omega⟩
  have := rgt_three ⟨n, by omega⟩
  dsimp only at this
  unfold badC
  rw [decide_eq_false (show ¬ (n : Int) ≥ 128 by omega), decide_eq_true h, this]
  simp
theorem good_rng {r : Int} (h : good r = true) : 223 ≤ r ∧ r ≤ 1119 := by
  unfold good at h
  simp only [Bool.or_eq_true, Bool.and_eq_true, decide_eq_true_eq] at h
  omega
theorem bdN_all {o : List Int} : ∀ n, n ≤ o.length → (bdN o n = false ↔ ∀ r ∈ o.take n, badC r = false)
  | 0, _ => by simp [bdN]
  | n + 1, h => by
    rw [bdN, Bool.or_eq_false_iff, bdN_all n (by omega), take_snoc' o n 0 h]
    constructor
    · rintro ⟨h1, h2⟩ r hr
      rcases List.mem_append.1 hr with k | k
      · exact h1 r k
      · rw [List.mem_singleton.1 k]; exact h2
    · intro h1
      exact ⟨fun r hr => h1 r (List.mem_append_left _ hr), h1 _ (by simp)⟩
theorem bdN_len {o : List Int} : bdN o o.length = false ↔ ∀ r ∈ o, badC r = false := by
  rw [bdN_all _ (Nat.le_refl _), List.take_length]
theorem byN_all {o : List Int} : ∀ n, n ≤ o.length → (byN o n = true ↔ ∃ r ∈ o.take n, 128 ≤ r)
  | 0, _ => by simp [byN]
  | n + 1, h => by
    rw [byN, Bool.or_eq_true, byN_all n (by omega), take_snoc' o n 0 h, decide_eq_true_eq]
    constructor
    · rintro (⟨r, h1, h2⟩ | h2)
      · exact ⟨r, List.mem_append_left _ h1, h2⟩
      · exact ⟨_, List.mem_append_right _ (List.mem_singleton.2 rfl), h2⟩
    · rintro ⟨r, h1, h2⟩
      rcases List.mem_append.1 h1 with k | k
      · exact .inl ⟨r, k, h2⟩
      · rw [List.mem_singleton.1 k] at h2; exact .inr h2
theorem byN_len {o : List Int} : byN o o.length = true ↔ ∃ r ∈ o, 128 ≤ r := by
  rw [byN_all _ (Nat.le_refl _), List.take_length]
/-- No rune is bad: what they are. -/
theorem nb_rng {r : Int} (h0 : 0 ≤ r) (h : badC r = false) : r < 1120 ∧ (r < 128 → okC r = true) ∧ (128 ≤ r → good r = true) := by
  by_cases e : r < 128
  · rw [badC_lt h0 e] at h
    exact ⟨by omega, fun _ => by simpa using h, fun k => by omega⟩
  · rw [badC_ge (by omega)] at h
    have hg : good r = true := by simpa using h
    have := good_rng hg
    exact ⟨by omega, fun k => by omega, fun _ => hg⟩
theorem okC_dot : ∀ n : Fin 128, okC (n.val : Int) = true → n.val ≠ 46 := by decide +kernel
theorem lowc_big {c : UInt8} (h : 90 < c.toNat) : lowc c = c := by unfold lowc; rw [if_neg (by omega)]
theorem low_e8 {r : Int} (h : okR r) (hc : ¬ (65 ≤ r ∧ r ≤ 90)) : (e8 r).map lowc = e8 r := by
  by_cases e : r < 128
  · rw [e8_lt h.1 e, List.map_singleton]
    congr 1
    unfold lowc
    rw [if_neg]
    rw [UInt8.toNat_ofNat']
    have := h.1
    omega
  · have h2 := h.2
    rw [e8_two (by omega) h2, List.map_cons, List.map_singleton, lowc_big (by rw [UInt8.toNat_ofNat']; omega), lowc_big (by rw [UInt8.toNat_ofNat']; omega)]
theorem low_enc {l : List Int} (h : ∀ r ∈ l, okR r) (hc : ∀ r ∈ l, ¬ (65 ≤ r ∧ r ≤ 90)) : (l.flatMap e8).map lowc = l.flatMap e8 := by
  induction l with
  | nil => rfl
  | cons r l ih => rw [List.flatMap_cons, List.map_append, low_e8 (h r (by simp)) (hc r (by simp)), ih (fun x hx => h x (by simp [hx])) fun x hx => hc x (by simp [hx])]
theorem pla_enc {l : List Int} (h : ∀ r ∈ l, okR r) {r : Int} (hr : r ∈ l) (h1 : 128 ≤ r) : ∃ c ∈ l.flatMap e8, 128 ≤ c.toNat := by
  refine ⟨UInt8.ofNat (192 + r.toNat / 64), List.mem_flatMap.2 ⟨r, hr, ?_⟩, ?_⟩
  · rw [e8_two h1 (h r hr).2]; simp
  · have := (h r hr).2
    rw [UInt8.toNat_ofNat']; omega
theorem dot_enc {l : List Int} (h : ∀ r ∈ l, okR r) (hd : ∀ r ∈ l, r ≠ 46) : ∀ c ∈ l.flatMap e8, c ≠ 46 := by
  intro c hc he
  subst he
  obtain ⟨r, hr, hm⟩ := List.mem_flatMap.1 hc
  have ho := h r hr
  by_cases e : r < 128
  · rw [e8_lt ho.1 e, List.mem_singleton] at hm
    have := congrArg UInt8.toNat hm
    rw [UInt8.toNat_ofNat'] at this
    have h46 : (46 : UInt8).toNat = 46 := rfl
    have := ho.1
    exact hd r hr (by omega)
  · have h2 := ho.2
    rw [e8_two (by omega) h2] at hm
    have h46 : (46 : UInt8).toNat = 46 := rfl
    rcases List.mem_cons.1 hm with k | k
    · have := congrArg UInt8.toNat k
      rw [UInt8.toNat_ofNat'] at this; omega
    · have := congrArg UInt8.toNat (List.mem_singleton.1 k)
      rw [UInt8.toNat_ofNat'] at this; omega
end Go.Proofs.YtedmgnhbfpjceaaDoorAv
set_option linter.unusedVariables false
set_option linter.unusedSimpArgs false
set_option maxRecDepth 100000
namespace Go.Proofs.YtedmgnhbfpjceaaDoorAv
open Go Go.RowKit
/-- The first error of labels that are turned. -/
def eL (l : List (List UInt8)) : Int := ee (fun x => (aL x).2) l
def jL (l : List (List UInt8)) : List UInt8 := join46 (l.map fun x => (aL x).1)
theorem tL_err {l : List (List UInt8)} (h : eL l ≠ 0) : tL l = ([], eL l) := by
  have : eR aL l = ([], eL l) := eR_err h
  rw [tL, this, if_neg]
  rintro ⟨h1, -⟩
  exact h h1
theorem tL_long {l : List (List UInt8)} (h : eL l = 0) (h2 : (jL l).length > 253) : tL l = ([], 2) := by
  have : eR aL l = (jL l, 0) := eR_ok h
  rw [tL, this, if_pos ⟨rfl, h2⟩]
theorem tL_ok {l : List (List UInt8)} (h : eL l = 0) (h2 : ¬ (jL l).length > 253) : tL l = (jL l, 0) := by
  have : eR aL l = (jL l, 0) := eR_ok h
  rw [tL, this, if_neg (fun k => h2 k.2)]
theorem tL_zero {l : List (List UInt8)} (h : (tL l).2 = 0) : eL l = 0 ∧ ¬ (jL l).length > 253 ∧ (tL l).1 = jL l := by
  by_cases e : eL l = 0
  · by_cases h2 : (jL l).length > 253
    · rw [tL_long e h2] at h; exact absurd h (by decide)
    · exact ⟨e, h2, by rw [tL_ok e h2]⟩
  · rw [tL_err e] at h; exact absurd h e
theorem tL_other {l : List (List UInt8)} (h : (tL l).2 ≠ 0) (h2 : (tL l).2 ≠ 2) : eL l = (tL l).2 := by
  by_cases e : eL l = 0
  · by_cases h3 : (jL l).length > 253
    · rw [tL_long e h3] at h2; exact absurd rfl h2
    · rw [tL_ok e h3] at h; exact absurd rfl h
  · rw [tL_err e]
theorem eL_app (l r : List (List UInt8)) : eL (l ++ r) = if eL l ≠ 0 then eL l else eL r := ee_app _ l r
theorem jL_app {l r : List (List UInt8)} (hl : l ≠ []) (hr : r ≠ []) : jL (l ++ r) = jL l ++ 46 :: jL r := by
  unfold jL
  rw [List.map_append, join46_app (by simpa using hl) (by simpa using hr)]
theorem LL_two {a b : List UInt8} (ha : ∀ t, a ≠ t ++ [46]) (hb : ∀ t, b ≠ t ++ [46]) (h : b ≠ []) : LL (a ++ 46 :: b) = LL a ++ LL b := by
  rw [LL_no ha, LL_no hb, LL_no, split1_app]
  intro t ht
  have h1 := congrArg List.getLast? ht
  rw [List.getLast?_append, List.getLast?_append] at h1
  simp only [List.getLast?_singleton, Option.some_or] at h1
  obtain ⟨c, b', rfl⟩ : ∃ b' c, b = b' ++ [c] := ⟨b.dropLast, b.getLast h, (List.dropLast_concat_getLast h).symm⟩
  rw [← List.cons_append, List.getLast?_append] at h1
  simp only [List.getLast?_singleton, Option.some_or, Option.some.injEq] at h1
  exact hb c (by rw [h1])
theorem par_v (a b : ByteArray) (ha : a.size ≤ 140737488351232) (hb : b.size ≤ 140737488351232) : parV a b := by
  have hpos : ∀ x : ByteArray, (!decide (x = ⟨#[]⟩)) = true → 0 < x.size := fun x h => by
    rw [emp_iff, Bool.not_eq_true', decide_eq_false_iff_not] at h; omega
  have hp2 : ∀ (c : Bool) (x : ByteArray), (c && !decide (x = ⟨#[]⟩)) = true → 0 < x.size := fun c x h => by
    rw [Bool.and_eq_true] at h
    exact hpos x h.2
  have hd : (a ++ ⟨#[46]⟩ ++ b).data.toList = a.data.toList ++ 46 :: b.data.toList := by
    rw [ByteArray.data_append, Array.toList_append, ByteArray.data_append, Array.toList_append, List.append_assoc]
    rfl
  unfold parV
  refine ⟨fun h => absurd h (by decide), fun _ => ⟨by unfold in64; omega, fun h => ?_, fun h => ?_, fun _ => by omega, fun h => ?_, fun h => ?_, fun _ => by omega, fun _ => rfl, fun h => ?_⟩⟩
  · have := hp2 _ _ h; unfold in64; omega
  · have := hp2 _ _ h; omega
  · have := hp2 _ _ h; unfold in64; omega
  · have := hp2 _ _ h; omega
  rw [Bool.or_eq_false_iff, Bool.or_eq_false_iff] at h
  obtain ⟨⟨h1, h2⟩, h3⟩ := h
  have hs : a.size + b.size ≤ 400 := by have := of_decide_eq_false h1; omega
  have hna := no_dot h2
  have hnb := no_dot h3
  have es1 : (a ++ (⟨#[46]⟩ : ByteArray)).size = a.size + 1 := by rw [ByteArray.size_append]; rfl
  have sa := size_data a
  have sb := size_data b
  have tx : tA a.data.toList = tL (LL a.data.toList) := tA_tL (by omega)
  have ty : tA b.data.toList = tL (LL b.data.toList) := tA_tL (by omega)
  have tz : tA (a.data.toList ++ 46 :: b.data.toList) = tL (LL (a.data.toList ++ 46 :: b.data.toList)) := tA_tL (by rw [List.length_append, List.length_cons]; omega)
  rw [toA_tA a, toA_tA b, toA_tA (a ++ ⟨#[46]⟩ ++ b), hd, tx, ty, tz]
  have one : b.data.toList = [] → LL (a.data.toList ++ 46 :: b.data.toList) = LL a.data.toList := fun h => by
    rw [h]
    unfold LL
    rw [trim46_dot, trim46_no hna]
  have hbe : decide (b = ⟨#[]⟩) = false → b.data.toList ≠ [] := fun h he => by
    rw [emp_iff, decide_eq_false_iff_not] at h
    rw [he] at sb
    exact h sb
  dsimp only
  refine ⟨by omega, by omega, fun h => ?_, fun h => ⟨fun h => h, fun h => by rw [h]; rfl, fun _ => rfl, fun h4 => ?_⟩⟩
  · rw [Bool.and_eq_true, bne_iff_ne, bne_iff_ne] at h
    have he := tL_other h.1 h.2
    rw [beq_iff_eq]
    by_cases hbb : b.data.toList = []
    · rw [one hbb]
    · rw [LL_two hna hnb hbb, tL_err (l := LL a.data.toList ++ LL b.data.toList) (by rw [eL_app, if_pos (by rw [he]; exact h.1), he]; exact h.1)]
      show eL _ = _
      rw [eL_app, if_pos (by rw [he]; exact h.1), he]
  · rw [Bool.or_eq_false_iff, Bool.or_eq_false_iff] at h4
    obtain ⟨⟨h5, h6⟩, h7⟩ := h4
    have hbb := hbe h5
    have hx0 : (tL (LL a.data.toList)).2 = 0 := by
      rw [beq_eq_false_iff_ne] at h6
      by_cases e : (tL (LL a.data.toList)).2 = 0
      · exact e
      · rw [Bool.and_eq_false_iff] at h
        rcases h with h | h
        · exact absurd (by simpa using h) e
        · exact absurd (by simpa using h) h6
    have hy2 : (tL (LL b.data.toList)).2 ≠ 2 := by rw [beq_eq_false_iff_ne] at h7; exact h7
    obtain ⟨x1, x2, x3⟩ := tL_zero hx0
    have eab : eL (LL a.data.toList ++ LL b.data.toList) = eL (LL b.data.toList) := by rw [eL_app, if_neg (by rw [x1]; simp)]
    have jab : jL (LL a.data.toList ++ LL b.data.toList) = jL (LL a.data.toList) ++ 46 :: jL (LL b.data.toList) := jL_app (LL_ne _) (LL_ne _)
    rw [LL_two hna hnb hbb]
    refine ⟨fun h8 => ?_, fun h8 => ?_⟩
    · have h8 : (tL (LL b.data.toList)).2 ≠ 0 := by simpa using h8
      have he := tL_other h8 hy2
      rw [tL_err (l := LL a.data.toList ++ LL b.data.toList) (by rw [eab, he]; exact h8), eab, he]
      simp
    · have h8 : (tL (LL b.data.toList)).2 = 0 := by simpa using h8
      obtain ⟨y1, y2, y3⟩ := tL_zero h8
      rw [x3, y3, mk8_size, mk8_size]
      have sj : (mk8 (jL (LL a.data.toList)) ++ (⟨#[46]⟩ : ByteArray)).size = (jL (LL a.data.toList)).length + 1 := by rw [ByteArray.size_append]; rfl
      refine ⟨by unfold in64; omega, by unfold in64; omega, fun _ => by omega, fun _ => by omega, ?_⟩
      by_cases hl : (jL (LL a.data.toList ++ LL b.data.toList)).length > 253
      · rw [tL_long (eab.trans y1) hl]
        rw [jab, List.length_append, List.length_cons] at hl
        rw [decide_eq_true (by omega)]
        rfl
      · rw [tL_ok (eab.trans y1) hl, jab]
        have e2 : mk8 (jL (LL a.data.toList) ++ 46 :: jL (LL b.data.toList)) = mk8 (jL (LL a.data.toList)) ++ ⟨#[46]⟩ ++ mk8 (jL (LL b.data.toList)) := by
          rw [← data_mk8 (mk8 (jL (LL a.data.toList)) ++ ⟨#[46]⟩ ++ mk8 (jL (LL b.data.toList)))]
          rw [ByteArray.data_append, Array.toList_append, ByteArray.data_append, Array.toList_append, List.append_assoc]
          rfl
        rw [← e2]
        simp
/-! NameLong -/
theorem aL_plain {x : List UInt8} (h1 : plaL (x.map lowc) = true) (h2 : xnL.isPrefixOf (x.map lowc) = false) : aL x = if rgtL (x.map lowc) = true then (x.map lowc, 0) else ([], 1) := by
  rw [aL_aS, aS, if_pos h1]
  cases h : rgtL (x.map lowc)
  · rw [if_pos rfl, if_neg (by simp)]
  · rw [if_neg (by simp), if_neg (by rw [h2]; simp), if_pos rfl]
theorem rep_low (n : Nat) : (List.replicate n (97 : UInt8)).map lowc = List.replicate n 97 := by
  rw [List.map_replicate]; rfl
theorem rgt_rep (n : Nat) (h : 0 < n) : rgtL (List.replicate n 97) = decide (n ≤ 63) := by
  unfold rgtL
  have e0 : (List.replicate n (97 : UInt8)).getD 0 0 = 97 := by
    rw [List.getD_eq_getElem?_getD, List.getElem?_replicate, if_pos h]; rfl
  have e1 : (List.replicate n (97 : UInt8)).getD (n - 1) 0 = 97 := by
    rw [List.getD_eq_getElem?_getD, List.getElem?_replicate, if_pos (by omega)]; rfl
  have e2 : (List.replicate n (97 : UInt8)).all okc = true := by
    rw [List.all_eq_true]
    intro c hc
    rw [(List.mem_replicate.1 hc).2]; decide
  rw [List.length_replicate, e0, e1, e2, decide_eq_true h]
  cases decide (n ≤ 63) <;> rfl
theorem aL_rep (n : Nat) (h : 0 < n) : aL (List.replicate n 97) = if n ≤ 63 then (List.replicate n 97, 0) else ([], 1) := by
  rw [aL_plain, rep_low, rgt_rep n h]
  · by_cases e : n ≤ 63
    · rw [decide_eq_true e, if_pos rfl, if_pos e]
    · rw [decide_eq_false e, if_neg (by simp), if_neg e]
  · rw [rep_low, plaL, List.all_eq_true]
    intro c hc
    rw [(List.mem_replicate.1 hc).2]; decide
  · rw [rep_low]
    cases n with
    | zero => omega
    | succ n => rfl
theorem rpA_data : ∀ n, (rpA n).data.toList = List.replicate n 97
  | 0 => rfl
  | n + 1 => by
    rw [rpA, ByteArray.data_append, Array.toList_append, rpA_data n, List.replicate_succ']
theorem rpS_data (x : ByteArray) : ∀ m, (rpS x m).data.toList = join46 (List.replicate m x.data.toList)
  | 0 => rfl
  | m + 1 => by
    rw [rpS, ByteArray.data_append, Array.toList_append]
    by_cases h : 0 < m
    · rw [if_pos h, ByteArray.data_append, Array.toList_append, rpS_data x m, List.replicate_succ', join46_app (by intro e; have := congrArg List.length e; simp at this; omega) (by simp), List.append_assoc]
      rfl
    · obtain rfl : m = 0 := by omega
      rw [if_neg h]
      rfl
theorem join_rep_len (x : List UInt8) : ∀ m, 0 < m → (join46 (List.replicate m x)).length = m * (x.length + 1) - 1
  | 0, h => by omega
  | 1, _ => by simp [join46]
  | m + 2, _ => by
    have ih := join_rep_len x (m + 1) (by omega)
    rw [List.replicate_succ, join46_cons x (by simp), List.length_append, List.length_cons, ih, Nat.add_mul (m + 1) 1]
    have : x.length + 1 ≤ (m + 1) * (x.length + 1) := Nat.le_mul_of_pos_left _ (by omega)
    omega
theorem LL_rep (n m : Nat) (hn : 0 < n) (hm : 0 < m) : LL (join46 (List.replicate m (List.replicate n 97))) = List.replicate m (List.replicate n 97) := by
  have hs : split1 46 (join46 (List.replicate m (List.replicate n 97))) = List.replicate m (List.replicate n 97) := split_join (by intro e; have := congrArg List.length e; simp at this; omega) fun x hx c hc => by
    rw [(List.mem_replicate.1 hx).2] at hc
    rw [(List.mem_replicate.1 hc).2]; decide
  rw [LL_no, hs]
  intro t ht
  rw [ht, split1_app] at hs
  have h1 : ([] : List UInt8) ∈ List.replicate m (List.replicate n 97) := by rw [← hs]; simp [split1]
  have h2 := (List.mem_replicate.1 h1).2
  have := congrArg List.length h2
  simp at this
  omega
theorem eL_rep (n m : Nat) (hn : 0 < n) (hm : 0 < m) : eL (List.replicate m (List.replicate n 97)) = if n ≤ 63 then 0 else 1 := by
  by_cases e : n ≤ 63
  · rw [if_pos e]
    refine ee_zero.2 fun x hx => ?_
    rw [(List.mem_replicate.1 hx).2, aL_rep n hn, if_pos e]
  · rw [if_neg e]
    obtain ⟨m, rfl⟩ : ∃ k, m = k + 1 := ⟨m - 1, by omega⟩
    rw [List.replicate_succ]
    show ee _ (_ :: _) = 1
    rw [ee, aL_rep n hn, if_neg e]
    rfl
theorem jL_rep (n m : Nat) (hn : 0 < n) (e : n ≤ 63) : jL (List.replicate m (List.replicate n 97)) = join46 (List.replicate m (List.replicate n 97)) := by
  unfold jL
  rw [List.map_replicate, aL_rep n hn, if_pos e]
theorem and_mk (x m : Int) (h0 : 0 ≤ m) (h1 : m ≤ 9223372036854775807) : 0 ≤ bits .and .i64 x m ∧ bits .and .i64 x m ≤ m := by
  have hb : (BitVec.ofInt 64 m).toNat = m.toNat := by
    rw [BitVec.toNat_ofInt, Int.emod_eq_of_lt h0 (by omega)]
  have h2 : (BitVec.ofInt 64 x &&& BitVec.ofInt 64 m).toNat ≤ m.toNat := by
    rw [BitVec.toNat_and, hb]; exact Nat.and_le_right
  have e : bits .and .i64 x m = ((BitVec.ofInt 64 x &&& BitVec.ofInt 64 m).toNat : Int) := by
    show IntKind.i64.wrap ((BitVec.ofInt 64 x &&& BitVec.ofInt 64 m).toNat : Int) = _
    generalize (BitVec.ofInt 64 x &&& BitVec.ofInt 64 m).toNat = t at h2
    exact wrap64_in (by omega) (by omega)
  rw [e]
  omega
theorem lon_v (n m : Int) : lonV n m := by
  have hn := and_mk n 127 (by decide) (by decide)
  have hm := and_mk m 7 (by decide) (by decide)
  have hN : 1 ≤ lnN n ∧ lnN n ≤ 128 := by unfold lnN; omega
  have hM : 1 ≤ lnM m ∧ lnM m ≤ 8 := by unfold lnM; omega
  have sA : ∀ i, (rpA i).size = i := fun i => by rw [size_data, rpA_data, List.length_replicate]
  have sS : ∀ k i, (rpS (rpA k) i).size ≤ i * (k + 1) := fun k i => by
    rw [size_data, rpS_data, rpA_data]
    cases i with
    | zero => simp [join46]
    | succ i => rw [join_rep_len _ _ (by omega), List.length_replicate]; omega
  have bnd : ∀ i : Nat, (i : Int) ≤ lnM m → (rpS (rpA (lnN n).toNat) i).size ≤ 8 * 129 := fun i hi => Nat.le_trans (sS _ i) (Nat.mul_le_mul (by omega) (by omega))
  unfold lonV
  refine ⟨fun h => absurd h (by decide), fun _ => ⟨by unfold in64; omega, by unfold in64; omega, ⟨⟨0⟩, (show ((0 : Nat) : Int) ≤ lnN n by omega), rfl, rfl, rfl, rfl, rfl, rfl, trivial⟩, ?_⟩⟩
  rintro ⟨i⟩ hi
  have hi : (i : Int) ≤ lnN n := hi
  refine ⟨fun h => ?_, fun h => ?_⟩
  · have h : (i : Int) < lnN n := of_decide_eq_true h
    exact ⟨by have := sA i; dsimp only; omega, by unfold in64; dsimp only; omega, ⟨i + 1⟩, (show ((i + 1 : Nat) : Int) ≤ lnN n by omega), by show (lnN n).toNat - (i + 1) < (lnN n).toNat - i; omega, rfl, rfl, rfl, rfl, rfl, rfl, trivial⟩
  have h : ¬ (i : Int) < lnN n := of_decide_eq_false h
  have ei : i = (lnN n).toNat := by omega
  refine ⟨⟨⟨0⟩, (show ((0 : Nat) : Int) ≤ lnM m by omega), rfl, rfl, rfl, by dsimp only; rw [ei], rfl, rfl, rfl, trivial⟩, ?_⟩
  clear h ei
  rintro ⟨i⟩ hi
  have hi : (i : Int) ≤ lnM m := hi
  have hb := bnd i hi
  have h97 := sA (lnN n).toNat
  have es1 : (rpS (rpA (lnN n).toNat) i ++ (⟨#[46]⟩ : ByteArray)).size = (rpS (rpA (lnN n).toNat) i).size + 1 := by rw [ByteArray.size_append]; rfl
  refine ⟨fun h => ⟨fun h2 => ?_, fun h2 => ?_⟩, fun h => ?_⟩
  · have h : (i : Int) < lnM m := of_decide_eq_true h
    have h2 : (i : Int) > 0 := of_decide_eq_true h2
    exact ⟨by dsimp only; omega, by dsimp only; omega, by unfold in64; dsimp only; omega, ⟨i + 1⟩, (show ((i + 1 : Nat) : Int) ≤ lnM m by omega), by show (lnM m).toNat - (i + 1) < (lnM m).toNat - i; omega, rfl, rfl, rfl, rfl, by dsimp only; rw [rpS, if_pos (by omega)], rfl, rfl, trivial⟩
  · have h : (i : Int) < lnM m := of_decide_eq_true h
    have h2 : ¬ (i : Int) > 0 := of_decide_eq_false h2
    exact ⟨by dsimp only; omega, by unfold in64; dsimp only; omega, ⟨i + 1⟩, (show ((i + 1 : Nat) : Int) ≤ lnM m by omega), by show (lnM m).toNat - (i + 1) < (lnM m).toNat - i; omega, rfl, rfl, rfl, rfl, by dsimp only; rw [rpS, if_neg (by omega)], rfl, rfl, trivial⟩
  have h : ¬ (i : Int) < lnM m := of_decide_eq_false h
  obtain ⟨k, hk⟩ : ∃ k : Nat, lnN n = k := ⟨(lnN n).toNat, by omega⟩
  have hk0 : 0 < k := by omega
  have hi0 : 0 < i := by omega
  have sd : (rpS (rpA k) i).data.toList = join46 (List.replicate i (List.replicate k 97)) := by rw [rpS_data, rpA_data]
  rw [hk] at hb ⊢
  rw [Int.toNat_natCast] at hb ⊢
  have ss : (rpS (rpA k) i).size = (join46 (List.replicate i (List.replicate k 97))).length := by rw [size_data, sd]
  have hT : toA (rpS (rpA k) i) = (mk8 (tA (join46 (List.replicate i (List.replicate k 97)))).1, (tA (join46 (List.replicate i (List.replicate k 97)))).2) := by rw [toA_tA, sd]
  have hLL := LL_rep k i hk0 hi0
  have hE := eL_rep k i hk0 hi0
  dsimp only
  refine ⟨fun h3 => ?_, fun h3 => ⟨fun h4 => ?_, fun h4 => ⟨fun h => h, fun h => h, fun h => h, ?_⟩⟩⟩
  · simp only [Bool.and_eq_true, decide_eq_true_eq] at h3
    rw [if_neg (by omega)] at hE
    rw [hT, tA_tL (by omega), hLL, tL_err (by rw [hE]; decide), hE]
    rfl
  · have h4 : ((rpS (rpA k) i).size : Int) > 253 := of_decide_eq_true h4
    rw [hT]
    by_cases h5 : (rpS (rpA k) i).size ≤ 1012
    · have hk63 : k ≤ 63 := by
        simp only [Bool.and_eq_false_iff, decide_eq_false_iff_not] at h3
        omega
      rw [if_pos hk63] at hE
      rw [tA_tL (by omega), hLL, tL_long hE (by rw [jL_rep k i hk0 hk63]; omega)]
      rfl
    · rw [tA, if_pos (by omega)]; rfl
  · have h4 : ¬ ((rpS (rpA k) i).size : Int) > 253 := of_decide_eq_false h4
    have hk63 : k ≤ 63 := by
      simp only [Bool.and_eq_false_iff, decide_eq_false_iff_not] at h3
      omega
    rw [if_pos hk63] at hE
    have hJ := jL_rep k i hk0 hk63
    rw [hT, tA_tL (by omega), hLL, tL_ok hE (by rw [hJ]; omega), hJ, ← sd, data_mk8]
    simp
end Go.Proofs.YtedmgnhbfpjceaaDoorAv
set_option linter.unusedVariables false
set_option linter.unusedSimpArgs false
set_option maxRecDepth 100000
namespace Go.Proofs.YtedmgnhbfpjceaaDoorAv
open Go Go.RowKit
theorem low_fix {c : UInt8} (h : lowc c = c) : ¬ (65 ≤ c.toNat ∧ c.toNat ≤ 90) := fun k => by
  have := congrArg UInt8.toNat h
  rw [lowc_nat, if_pos k] at this
  omega
theorem fix_low {c : UInt8} (h : ¬ (65 ≤ c.toNat ∧ c.toNat ≤ 90)) : lowc c = c := by unfold lowc; rw [if_neg h]
theorem fold_low {a b : UInt8} (ha : lowc a = a) (hb : lowc b = b) (h : Lib.foldEq a b = true) : a = b := by
  have na := low_fix ha
  have nb := low_fix hb
  unfold Lib.foldEq at h
  rw [decide_eq_true_eq] at h
  apply UInt8.toNat_inj.1
  omega
theorem eqf_low : ∀ a b : List UInt8, a.map lowc = a → b.map lowc = b → Lib.equalFold a b = true → a = b
  | [], [], _, _, _ => rfl
  | x :: a, y :: b, h1, h2, h => by
    rw [Lib.equalFold, Bool.and_eq_true] at h
    rw [List.map_cons, List.cons.injEq] at h1 h2
    rw [fold_low h1.1 h2.1 h.1, eqf_low a b h1.2 h2.2 h.2]
  | [], y :: b, _, _, h => by simp [Lib.equalFold] at h
  | x :: a, [], _, _, h => by simp [Lib.equalFold] at h
theorem okC_dig : ∀ n : Fin 128, (48 ≤ n.val ∧ n.val ≤ 57 ∨ 97 ≤ n.val ∧ n.val ≤ 122) → okC n.val = true := by decide +kernel
/-- What Encode writes of right runes. -/
structure EncO (l o : List Int) : Prop where
  ok : ∀ x ∈ o, 0 ≤ x ∧ x < 128 ∧ okC x = true
  low : (∀ r ∈ l, ¬ (65 ≤ r ∧ r ≤ 90)) → ∀ x ∈ o, ¬ (65 ≤ x ∧ x ≤ 90)
  last : (∃ r ∈ l, 128 ≤ r) → ∃ o' d, o = o' ++ [d] ∧ digP d
theorem encO {l o : List Int} (hl : l.length ≤ 63) (hb : ∀ r ∈ l, 0 ≤ r ∧ badC r = false) (ho : encR (fun j => l.getD j 0) l.length = (o, 0)) : EncO l o := by
  have hg : ∀ r ∈ l, 0 ≤ r ∧ r < 2000 := fun r hr => ⟨(hb r hr).1, by have := (nb_rng (hb r hr).1 (hb r hr).2).1; omega⟩
  obtain ⟨k', dg, e1, e2, e3, e4⟩ := encR_RI hl hg ho
  have he := eo0_filt l l.length (Nat.le_refl _)
  rw [List.take_length] at he
  have hm : ∀ x ∈ o, (x ∈ l ∧ x < 128) ∨ x = 45 ∨ digP x := fun x hx => by
    rw [e1] at hx
    rcases List.mem_append.1 hx with k | k
    · unfold eo1 at k
      rw [he] at k
      split at k
      · rcases List.mem_append.1 k with k | k
        · have := List.mem_filter.1 k
          exact .inl ⟨this.1, by simpa using this.2⟩
        · exact .inr (.inl (List.mem_singleton.1 k))
      · have := List.mem_filter.1 k
        exact .inl ⟨this.1, by simpa using this.2⟩
    · exact .inr (.inr (e3 x k))
  refine ⟨fun x hx => ?_, fun hc x hx => ?_, fun ⟨r, hr, h1⟩ => ?_⟩
  · rcases hm x hx with ⟨k, k2⟩ | rfl | k
    · have := hb x k
      exact ⟨this.1, k2, (nb_rng this.1 this.2).2.1 k2⟩
    · exact ⟨by decide, by decide, by decide⟩
    · have hk : 0 ≤ x ∧ x < 128 := by rcases k with k | k <;> omega
      refine ⟨hk.1, hk.2, ?_⟩
      obtain ⟨n, rfl⟩ : ∃ n : Nat, x = n := ⟨x.toNat, by omega⟩
      exact okC_dig ⟨n, by omega⟩ (by
        show 48 ≤ n ∧ n ≤ 57 ∨ 97 ≤ n ∧ n ≤ 122
        rcases k with k | k <;> omega)
  · rcases hm x hx with ⟨k, k2⟩ | rfl | k
    · exact hc x k
    · decide
    · rcases k with k | k <;> omega
  · by_cases hd : dg = []
    · subst hd
      have h4 := e4 0
      have : k' = 0 := by simpa using e2
      subst this
      have h5 : some (eo0 (fun j => l.getD j 0) l.length) = some l := h4
      rw [he] at h5
      have h6 := Option.some.inj h5
      rw [← h6] at hr
      have := (List.mem_filter.1 hr).2
      simp at this
      omega
    · exact ⟨eo1 (fun j => l.getD j 0) l.length ++ dg.dropLast, dg.getLast hd, by rw [e1, List.append_assoc, List.dropLast_concat_getLast], e3 _ (List.getLast_mem hd)⟩
theorem txtO_toB (o : List Int) : (txtO o).data.toList = o.map toB := txtO_list o
/-- A label as it goes out. -/
structure LOK (t : List UInt8) : Prop where
  pla : plaL t = true
  rgt : rgtL t = true
  low : t.map lowc = t
  uni : xnL.isPrefixOf t = true → (uL t).2 = 0
theorem uL_no {t : List UInt8} (h : xnL.isPrefixOf t = false) : uL t = (t, 0) := by
  unfold uL lf
  have : (cutPreB (mk8 t) xnT).2 = false := h
  rw [uniR, if_pos this]
  rfl
theorem uL_xn (t : List UInt8) : uL (xnL ++ t) = if (decR (mk8 t)).2 ≠ 0 then ([], (decR (mk8 t)).2) else ((uniL (decR (mk8 t)).1).1.data.toList, (uniL (decR (mk8 t)).1).2) := by
  unfold uL lf
  have h1 : (cutPreB (mk8 (xnL ++ t)) xnT).2 = true := by
    show xnL.isPrefixOf (xnL ++ t) = true
    rw [List.isPrefixOf_iff_prefix]; exact List.prefix_append _ _
  have h2 : (cutPreB (mk8 (xnL ++ t)) xnT).1 = mk8 t := by
    have h1 : Lib.hasPrefix (mk8 (xnL ++ t)).data.toList xnT.data.toList = true := h1
    unfold cutPreB
    dsimp only
    rw [Lib.trimPrefix, if_pos h1]
    rfl
  rw [uniR, h1, h2, if_neg (by decide)]
  split <;> rfl
theorem pre_ex {t : List UInt8} (h : xnL.isPrefixOf t = true) : ∃ t', t = xnL ++ t' := by
  rw [List.isPrefixOf_iff_prefix] at h
  obtain ⟨t', e⟩ := h
  exact ⟨t', e.symm⟩
theorem uniL_ok {l : List Int} (h1 : ∀ r ∈ l, badC r = false) (h2 : ∃ r ∈ l, 128 ≤ r) (h3 : l.getD 0 0 ≠ 45) (h4 : l.getD (l.length - 1) 0 ≠ 45) : uniL l = (encB l, 0) := by
  rw [uniL, bdN_len.2 h1, if_neg (by decide), byN_len.2 h2, beq_eq_false_iff_ne.2 h3, beq_eq_false_iff_ne.2 h4]
  rfl
theorem uniL_zero {l : List Int} (h : (uniL l).2 = 0) : (∀ r ∈ l, badC r = false) ∧ (∃ r ∈ l, 128 ≤ r) ∧ l.getD 0 0 ≠ 45 ∧ l.getD (l.length - 1) 0 ≠ 45 := by
  rw [uniL] at h
  cases h1 : bdN l l.length
  · rw [h1, if_neg (by decide)] at h
    cases h2 : byN l l.length
    · rw [h2] at h; exact absurd h (by simp)
    · cases h3 : l.getD 0 0 == 45
      · cases h4 : l.getD (l.length - 1) 0 == 45
        · exact ⟨bdN_len.1 h1, byN_len.1 h2, beq_eq_false_iff_ne.1 h3, beq_eq_false_iff_ne.1 h4⟩
        · rw [h2, h3, h4] at h; exact absurd h (by simp)
      · rw [h2, h3] at h; exact absurd h (by simp)
  · rw [h1, if_pos rfl] at h; exact absurd h (by decide)
theorem ascL_zero {l : List Int} (h : (ascL l).2 = 0) : (∀ r ∈ l, badC r = false) ∧ l.getD 0 0 ≠ 45 ∧ l.getD (l.length - 1) 0 ≠ 45 ∧ ∃ o, encR (fun j => l.getD j 0) l.length = (o, 0) ∧ o.length ≤ 59 ∧ (ascL l).1.data.toList = xnL ++ o.map toB := by
  rw [ascL] at h ⊢
  cases h1 : bdN l l.length
  · rw [h1, if_neg (by decide)] at h
    rw [if_neg (by decide)]
    cases h3 : l.getD 0 0 == 45
    · cases h4 : l.getD (l.length - 1) 0 == 45
      · rw [h3, h4, if_neg (by decide)] at h
        rw [if_neg (by decide)]
        by_cases h5 : (encR (fun j => l.getD j 0) l.length).2 = 0
        · rw [if_neg (by rw [h5]; simp)] at h
          rw [if_neg (by rw [h5]; simp)]
          split at h
          · exact absurd h (by decide)
          · rename_i h6
            rw [if_neg h6]
            have e4 : xnT.size = 4 := rfl
            rw [ByteArray.size_append, txtO_size, e4] at h6
            refine ⟨bdN_len.1 h1, beq_eq_false_iff_ne.1 h3, beq_eq_false_iff_ne.1 h4, _, Prod.ext rfl h5, (show (encR (fun j => l.getD j 0) l.length).1.length ≤ 59 by omega), ?_⟩
            dsimp only
            rw [ByteArray.data_append, Array.toList_append, txtO_toB]
            rfl
        · rw [if_pos h5] at h; exact absurd h h5
      · rw [h3, h4] at h; exact absurd h (by simp)
    · rw [h3] at h; exact absurd h (by simp)
  · rw [h1, if_pos rfl] at h; exact absurd h (by decide)
theorem ascL_ok {l o : List Int} (h1 : ∀ r ∈ l, badC r = false) (h3 : l.getD 0 0 ≠ 45) (h4 : l.getD (l.length - 1) 0 ≠ 45) (h5 : encR (fun j => l.getD j 0) l.length = (o, 0)) (h6 : o.length ≤ 59) : ascL l = (xnT ++ txtO o, 0) := by
  have e4 : xnT.size = 4 := rfl
  rw [ascL, bdN_len.2 h1, if_neg (by decide), beq_eq_false_iff_ne.2 h3, beq_eq_false_iff_ne.2 h4, if_neg (by decide), h5, if_neg (by simp), if_neg]
  rw [ByteArray.size_append, txtO_size, e4]
  show ¬ 4 + o.length > 63
  omega
theorem toB_nat' {x : Int} (h0 : 0 ≤ x) (h1 : x < 128) : ((toB x).toNat : Int) = x := toB_nat h0 (by omega)
/-- The label that Encode's text makes. -/
theorem xn_LOK {l o : List Int} (hl : l.length ≤ 2000) (hr : ∀ r ∈ l, 0 ≤ r ∧ r ≤ 1114111) (h1 : ∀ r ∈ l, badC r = false) (h2 : ∃ r ∈ l, 128 ≤ r) (h3 : l.getD 0 0 ≠ 45) (h4 : l.getD (l.length - 1) 0 ≠ 45) (hc : ∀ r ∈ l, ¬ (65 ≤ r ∧ r ≤ 90)) (h5 : encR (fun j => l.getD j 0) l.length = (o, 0)) (h6 : o.length ≤ 59) : LOK (xnL ++ o.map toB) := by
  have hlo := encR_len hl hr h5
  have hE := encO (by omega) (fun r k => ⟨(hr r k).1, h1 r k⟩) h5
  obtain ⟨o', d, eo, hd⟩ := hE.last h2
  have hall : ∀ c ∈ xnL ++ o.map toB, okc c = true ∧ ¬ (65 ≤ c.toNat ∧ c.toNat ≤ 90) := fun c hc' => by
    rcases List.mem_append.1 hc' with k | k
    · have : ∀ c ∈ xnL, okc c = true ∧ ¬ (65 ≤ c.toNat ∧ c.toNat ≤ 90) := by decide
      exact this c k
    · obtain ⟨x, hx, rfl⟩ := List.mem_map.1 k
      obtain ⟨q1, q2, q3⟩ := hE.ok x hx
      have e := toB_nat' q1 q2
      have q4 := hE.low hc x hx
      refine ⟨?_, by omega⟩
      unfold okc
      rw [e]; exact q3
  have hlast : (xnL ++ o.map toB).getD ((xnL ++ o.map toB).length - 1) 0 = toB d := by
    rw [eo, List.map_append, ← List.append_assoc, List.getD_eq_getElem?_getD]
    simp
  have hd0 : 0 ≤ d ∧ d < 128 := by rcases hd with h | h <;> omega
  refine ⟨?_, ?_, ?_, fun _ => ?_⟩
  · unfold plaL
    rw [List.all_eq_true]
    intro c hc'
    exact decide_eq_true (okc_rng c (hall c hc').1).1
  · unfold rgtL
    have ea : (xnL ++ o.map toB).all okc = true := List.all_eq_true.2 fun c hc' => (hall c hc').1
    have eb : (toB d == 45) = false := by
      rw [beq_eq_false_iff_ne]
      intro e
      have := congrArg (fun c : UInt8 => (c.toNat : Int)) e
      have this : ((toB d).toNat : Int) = ((45 : UInt8).toNat : Int) := this
      rw [toB_nat' hd0.1 hd0.2] at this
      have h45 : ((45 : UInt8).toNat : Int) = 45 := rfl
      rw [h45] at this
      rcases hd with h | h <;> omega
    rw [hlast, ea, eb]
    have el : (xnL ++ o.map toB).length = 4 + o.length := by rw [List.length_append, List.length_map]; rfl
    rw [el, decide_eq_true (by omega), decide_eq_true (by omega)]
    rfl
  · conv => rhs; rw [← List.map_id (xnL ++ o.map toB)]
    exact List.map_congr_left fun c hc' => fix_low (hall c hc').2
  · have hD := decR_enc (by omega) (fun r k => ⟨(hr r k).1, by have := (nb_rng (hr r k).1 (h1 r k)).1; omega⟩) h5
    rw [uL_xn, show mk8 (o.map toB) = txtO o by rw [← txtO_toB, data_mk8], hD, if_neg (by simp), uniL_ok h1 h2 h3 h4]
theorem map_low_mem {t : List UInt8} (h : t.map lowc = t) : ∀ c ∈ t, lowc c = c := by
  intro c hc
  have : t.map lowc = t.map id := by rw [h, List.map_id]
  exact (List.map_inj_left.1 this) c hc
theorem map_low_low (x : List UInt8) : (x.map lowc).map lowc = x.map lowc := by
  rw [List.map_map]
  exact List.map_congr_left fun c _ => lowc_idem c
/-- T1: what goes out of a label. -/
theorem aL_LOK {x : List UInt8} (hx : x.length ≤ 2000) (h : (aL x).2 = 0) : LOK (aL x).1 := by
  rw [aL_aS] at h ⊢
  have hlow := map_low_low x
  have hlen : (x.map lowc).length ≤ 2000 := by rw [List.length_map]; exact hx
  generalize x.map lowc = t at *
  rw [aS] at h ⊢
  by_cases hp : plaL t = true
  · rw [if_pos hp] at h ⊢
    by_cases hr : rgtL t = false
    · rw [if_pos hr] at h; exact absurd h (by decide)
    · rw [if_neg hr] at h ⊢
      have hr : rgtL t = true := by simpa using hr
      by_cases hx : xnL.isPrefixOf t = true
      · rw [if_pos hx] at h ⊢
        exact ⟨hp, hr, hlow, fun _ => h⟩
      · rw [if_neg hx]
        exact ⟨hp, hr, hlow, fun k => absurd k hx⟩
  · rw [if_neg hp] at h ⊢
    by_cases hv : validB (mk8 t) = false
    · rw [if_pos hv] at h; exact absurd h (by decide)
    · rw [if_neg hv] at h ⊢
      have h : (ascL (rns (mk8 t))).2 = 0 := h
      show LOK (ascL (rns (mk8 t))).1.data.toList
      rw [rns_rnL, mk8_data] at h ⊢
      have hm := rnL_mem t.length t
      have hl := rnL_len t.length t
      have hb : ∃ r ∈ rnL t.length t, 128 ≤ r := by
        by_cases e : ∃ r ∈ rnL t.length t, 128 ≤ r
        · exact e
        · exact absurd (rnL_pla t.length t (Nat.le_refl _) fun r hr => by
            by_cases k : r < 128
            · exact k
            · exact absurd ⟨r, hr, by omega⟩ e) hp
      generalize rnL t.length t = l at *
      obtain ⟨q1, q2, q3, o, q4, q5, q6⟩ := ascL_zero h
      rw [q6]
      exact xn_LOK (by omega) (fun r hr => ⟨(hm r hr).1, (hm r hr).2.1⟩) q1 hb q2 q3 (fun r hr => by
        by_cases k : r < 128
        · obtain ⟨c, hc, e⟩ := (hm r hr).2.2 k
          have := low_fix (map_low_mem hlow c hc)
          omega
        · omega) q4 q5
/-- T2: it goes out again as it is. -/
theorem LOK.asc {t : List UInt8} (h : LOK t) : aL t = (t, 0) := by
  rw [aL_aS, h.low, aS, if_pos h.pla, h.rgt, if_neg (by decide)]
  by_cases k : xnL.isPrefixOf t = true
  · rw [if_pos k, h.uni k]
  · rw [if_neg k]
/-- T3: it comes back from what it is read as. -/
theorem LOK.back {t : List UInt8} (h : LOK t) (hx : xnL.isPrefixOf t = true) : (uL t).2 = 0 ∧ aL (uL t).1 = (t, 0) ∧ (∀ c ∈ (uL t).1, c ≠ 46) ∧ (uL t).1 ≠ t ∧ (uL t).1 ≠ [] ∧ (uL t).1.length ≤ 2 * t.length := by
  have hz := h.uni hx
  refine ⟨hz, ?_⟩
  have hlow := h.low
  have hpla := h.pla
  have hrgt := h.rgt
  obtain ⟨t', rfl⟩ := pre_ex hx
  rw [uL_xn] at hz ⊢
  by_cases hd : (decR (mk8 t')).2 = 0
  · rw [if_neg (by rw [hd]; simp)] at hz ⊢
    have hz : (uniL (decR (mk8 t')).1).2 = 0 := hz
    obtain ⟨f1, f2, f3⟩ := decR_facts hd
    have hlen := decR_len (mk8 t')
    generalize (decR (mk8 t')).1 = l at *
    obtain ⟨q1, q2, q3, q4⟩ := uniL_zero hz
    rw [uniL_ok q1 q2 q3 q4, encB_list]
    have hlow' : t'.map lowc = t' := by
      rw [List.map_append] at hlow
      exact (List.append_inj hlow rfl).2
    have hr0 : ∀ r ∈ l, 0 ≤ r := fun r hr => by
      rcases f1 r hr with ⟨c, hc, e⟩ | k <;> omega
    have hok : ∀ r ∈ l, okR r := fun r hr => ⟨hr0 r hr, by have := (nb_rng (hr0 r hr) (q1 r hr)).1; omega⟩
    have hrr : ∀ r ∈ l, 0 ≤ r ∧ r ≤ 1114111 := fun r hr => ⟨hr0 r hr, by have := (hok r hr).2; omega⟩
    have hcap : ∀ r ∈ l, ¬ (65 ≤ r ∧ r ≤ 90) := fun r hr => by
      rcases f1 r hr with ⟨c, hc, e⟩ | k
      · have := low_fix (map_low_mem hlow' c hc)
        omega
      · omega
    obtain ⟨o, ho⟩ : ∃ o, encR (fun j => l.getD j 0) l.length = (o, 0) := ⟨_, Prod.ext rfl f2⟩
    rw [ho] at f3
    have f3 : Lib.equalFold (txtO o).data.toList t' = true := f3
    have hlo := encR_len (by omega) hrr ho
    have hok2 := encR_ok (q := ⟨l.length, fun j => l.getD j 0⟩) (by show l.length ≤ 2000; omega) (fun i hi => by
      rw [show (Sq.mk l.length fun j => l.getD j 0).g i = l.getD i 0 from rfl, List.getD_eq_getElem?_getD, List.getElem?_eq_getElem hi]
      exact hrr _ (List.getElem_mem hi))
    dsimp only at hok2
    rw [ho] at hok2
    have hE := encO (by have := hok2.2; dsimp only at this; omega) (fun r k => ⟨hr0 r k, q1 r k⟩) ho
    have hol : (o.map toB).map lowc = o.map toB := by
      conv => rhs; rw [← List.map_id (o.map toB)]
      refine List.map_congr_left fun c hc => fix_low ?_
      obtain ⟨x, hx, rfl⟩ := List.mem_map.1 hc
      have e := toB_nat' (hE.ok x hx).1 (hE.ok x hx).2.1
      have := hE.low hcap x hx
      omega
    rw [txtO_toB] at f3
    have et : o.map toB = t' := eqf_low _ _ hol hlow' f3
    have h59 : o.length ≤ 59 := by
      unfold rgtL at hrgt
      simp only [Bool.and_eq_true, decide_eq_true_eq] at hrgt
      have := hrgt.1.1.1.2
      rw [List.length_append, ← et, List.length_map] at this
      have h4 : xnL.length = 4 := rfl
      omega
    obtain ⟨rb, hb1, hb2⟩ := q2
    obtain ⟨cb, hcb1, hcb2⟩ := pla_enc hok hb1 hb2
    have hnp : ¬ plaL (l.flatMap e8) = true := fun k => by
      unfold plaL at k
      have := of_decide_eq_true (List.all_eq_true.1 k cb hcb1)
      omega
    refine ⟨?_, ?_, ?_, ?_, ?_⟩
    · show aL (l.flatMap e8) = _
      rw [aL_aS, low_enc hok hcap, aS, if_neg hnp, validB_enc hok, if_neg (by decide), aN, rns_enc hok, ascL_ok q1 q3 q4 ho h59]
      dsimp only
      rw [ByteArray.data_append, Array.toList_append, txtO_toB, et]
      rfl
    · show ∀ c ∈ l.flatMap e8, c ≠ 46
      exact dot_enc hok fun r hr => by
        by_cases k : r < 128
        · have h1 := (nb_rng (hr0 r hr) (q1 r hr)).2.1 k
          intro e
          rw [e] at h1
          exact absurd h1 (by decide)
        · omega
    · show l.flatMap e8 ≠ _
      intro e
      rw [e] at hnp
      exact hnp hpla
    · show l.flatMap e8 ≠ []
      intro e
      rw [e] at hcb1; simp at hcb1
    · show (l.flatMap e8).length ≤ _
      have h2 : ∀ l : List Int, (∀ r ∈ l, okR r) → (l.flatMap e8).length ≤ 2 * l.length := by
        intro l
        induction l with
        | nil => intro _; simp
        | cons r l ih =>
          intro hk
          have i1 := ih fun x hx => hk x (by simp [hx])
          have i2 : (e8 r).length ≤ 2 := by
            have := hk r (by simp)
            by_cases e : r < 128
            · rw [e8_lt this.1 e]; simp
            · rw [e8_two (by omega) this.2]; simp
          rw [List.flatMap_cons, List.length_append, List.length_cons]
          omega
      have := h2 l hok
      rw [List.length_append, ← et, List.length_map]
      omega
  · rw [if_pos hd] at hz; exact absurd hz hd
theorem LOK.len {t : List UInt8} (h : LOK t) : 0 < t.length ∧ t.length ≤ 63 := by
  have := h.rgt
  unfold rgtL at this
  simp only [Bool.and_eq_true, decide_eq_true_eq] at this
  exact ⟨this.1.1.1.1, this.1.1.1.2⟩
theorem LOK.okc {t : List UInt8} (h : LOK t) : ∀ c ∈ t, Go.Proofs.YtedmgnhbfpjceaaDoorAv.okc c = true := by
  have := h.rgt
  unfold rgtL at this
  rw [Bool.and_eq_true] at this
  exact List.all_eq_true.1 this.2
theorem LOK.dot {t : List UInt8} (h : LOK t) : ∀ c ∈ t, c ≠ 46 := fun c hc e => by
  have := (okc_rng c (h.okc c hc)).2
  rw [e] at this
  exact this rfl
end Go.Proofs.YtedmgnhbfpjceaaDoorAv
set_option linter.unusedVariables false
set_option linter.unusedSimpArgs false
set_option maxRecDepth 100000
namespace Go.Proofs.YtedmgnhbfpjceaaDoorAv
open Go Go.RowKit
abbrev sqT (q : Sq ByteArray) : XV := .fz q.n 1 fun i => [XT (q.g i)]
def plOk (q : Sq ByteArray) : Nat → Bool
  | 0 => true
  | i + 1 => bif plOk q i then rgt (q.g i) else false
def plSz (q : Sq ByteArray) : Nat → Int
  | 0 => -1
  | i + 1 => plSz q i + ((q.g i).size + 1)
/-- A label that the law speaks of. -/
def plG (s : ByteArray) : Prop := s.size ≤ 100 ∧ (4 ≤ s.size → lowT (s.extract 0 4) ≠ xnT) ∧ ∀ j : Nat, j < s.size → sbyte s j < 128 ∧ sbyte s j ≠ 46
def plG' (s : ByteArray) (i : Nat) : Prop := ∀ j : Nat, j < i → sbyte s j < 128 ∧ sbyte s j ≠ 46
def npI0 (q : Sq ByteArray) (point : Bool) : Inv where
  σ := IL
  S := fun x => ⟨[(0, sqT q), (1, XB point), (5, XB (plOk q x.i)), (6, XI (plSz q x.i)), (32, sqT q), (33, XI q.n), (34, XI x.i)], [], 0, false, []⟩
  inv := fun x => x.i ≤ q.n ∧ ∀ j, j < x.i → plG (q.g j)
  μ := fun x => q.n - x.i
def npI2 (q : Sq ByteArray) (point : Bool) (y : IL) : Inv where
  σ := IL
  S := fun x => ⟨[(0, sqT q), (1, XB point), (5, XB (plOk q y.i)), (6, XI (plSz q y.i)), (32, sqT q), (33, XI q.n), (34, XI y.i), (8, XT (q.g y.i)), (53, XI (q.g y.i).size), (54, XI x.i)], [], 0, false, []⟩
  inv := fun x => x.i ≤ (q.g y.i).size ∧ plG' (q.g y.i) x.i
  μ := fun x => (q.g y.i).size - x.i
def npE (q : Sq ByteArray) (point : Bool) : Env := { loops := [(0, npI0 q point)], loopsP := [(2, ⟨IL, npI2 q point⟩)] }
def plnV (q : Sq ByteArray) (point : Bool) : Prop :=
  ((!true) = true → false = true) ∧ ((!true) = false → ((!((↑q.n : Int) == (0 : Int) || decide ((↑q.n : Int) > (10 : Int)))) = true → in64 ((↑q.n : Int) - (1 : Int))) ∧ ((!((↑q.n : Int) == (0 : Int) || decide ((↑q.n : Int) > (10 : Int)))) = true → (0 : Int) ≤ (↑q.n : Int) - (1 : Int)) ∧ ((!((↑q.n : Int) == (0 : Int) || decide ((↑q.n : Int) > (10 : Int)))) = true → (↑q.n : Int) - (1 : Int) < (↑q.n : Int)) ∧ (((↑q.n : Int) == (0 : Int) || decide ((↑q.n : Int) > (10 : Int)) || decide (q.g ((↑q.n : Int) - (1 : Int)).toNat = { data := #[] : ByteArray })) = true → true = true) ∧ (((↑q.n : Int) == (0 : Int) || decide ((↑q.n : Int) > (10 : Int)) || decide (q.g ((↑q.n : Int) - (1 : Int)).toNat = { data := #[] : ByteArray })) = false → (∃ (x : (npI0 q point).σ), (x.i ≤ q.n ∧ ∀ (j : Nat), j < x.i → plG (q.g j)) ∧ true = true ∧ (XV.fz q.n (1 : Nat) fun (i : Nat) => [XT (q.g i)]) = sqT q ∧ point = point ∧ true = plOk q x.i ∧ (-1 : Int) = plSz q x.i ∧ (XV.fz q.n (1 : Nat) fun (i : Nat) => [XT (q.g i)]) = sqT q ∧ (↑q.n : Int) = (↑q.n : Int) ∧ (0 : Int) = (↑x.i : Int) ∧ True) ∧ ∀ (x : IL), (x.i ≤ q.n ∧ ∀ (j : Nat), j < x.i → plG (q.g j)) → (decide ((↑x.i : Int) < (↑q.n : Int)) = true → (0 : Int) ≤ (↑x.i : Int) ∧ (↑x.i : Int) < (↑q.n : Int) ∧ ((!decide ((↑(q.g (↑x.i : Int).toNat).size : Int) > (100 : Int)) && decide ((↑(q.g (↑x.i : Int).toNat).size : Int) ≥ (4 : Int))) = true → (0 : Int) ≤ (0 : Int)) ∧ ((!decide ((↑(q.g (↑x.i : Int).toNat).size : Int) > (100 : Int)) && decide ((↑(q.g (↑x.i : Int).toNat).size : Int) ≥ (4 : Int))) = true → (0 : Int) ≤ (4 : Int)) ∧ ((!decide ((↑(q.g (↑x.i : Int).toNat).size : Int) > (100 : Int)) && decide ((↑(q.g (↑x.i : Int).toNat).size : Int) ≥ (4 : Int))) = true → (4 : Int) ≤ (↑(q.g (↑x.i : Int).toNat).size : Int)) ∧ ((!decide ((↑(q.g (↑x.i : Int).toNat).size : Int) > (100 : Int)) && decide ((↑(q.g (↑x.i : Int).toNat).size : Int) ≥ (4 : Int))) = true → ((q.g (↑x.i : Int).toNat).extract ((0 : Nat)) ((4 : Nat))).size ≤ (1000000000 : Nat)) ∧ ((decide ((↑(q.g (↑x.i : Int).toNat).size : Int) > (100 : Int)) || decide ((↑(q.g (↑x.i : Int).toNat).size : Int) ≥ (4 : Int)) && decide (lowT ((q.g (↑x.i : Int).toNat).extract ((0 : Nat)) ((4 : Nat))) = { data := #[(120 : UInt8), (110 : UInt8), (45 : UInt8), (45 : UInt8)] : ByteArray })) = true → true = true) ∧ ((decide ((↑(q.g (↑x.i : Int).toNat).size : Int) > (100 : Int)) || decide ((↑(q.g (↑x.i : Int).toNat).size : Int) ≥ (4 : Int)) && decide (lowT ((q.g (↑x.i : Int).toNat).extract ((0 : Nat)) ((4 : Nat))) = { data := #[(120 : UInt8), (110 : UInt8), (45 : UInt8), (45 : UInt8)] : ByteArray })) = false → ∃ (p : { α := IL, J := npI2 q point : InvP }.α), (∃ (x_1 : ({ α := IL, J := npI2 q point : InvP }.J p).σ), (x_1.i ≤ (q.g p.i).size ∧ plG' (q.g p.i) x_1.i) ∧ true = true ∧ (XV.fz q.n (1 : Nat) fun (i : Nat) => [XT (q.g i)]) = sqT q ∧ point = point ∧ plOk q x.i = plOk q p.i ∧ plSz q x.i = plSz q p.i ∧ (XV.fz q.n (1 : Nat) fun (i : Nat) => [XT (q.g i)]) = sqT q ∧ (↑q.n : Int) = (↑q.n : Int) ∧ (↑x.i : Int) = (↑p.i : Int) ∧ q.g (↑x.i : Int).toNat = q.g p.i ∧ (↑(q.g (↑x.i : Int).toNat).size : Int) = (↑(q.g p.i).size : Int) ∧ (0 : Int) = (↑x_1.i : Int) ∧ True) ∧ ∀ (x_1 : IL), x_1.i ≤ (q.g p.i).size ∧ plG' (q.g p.i) x_1.i → (decide ((↑x_1.i : Int) < (↑(q.g p.i).size : Int)) = true → (0 : Int) ≤ (↑x_1.i : Int) ∧ (↑x_1.i : Int) < (↑(q.g p.i).size : Int) ∧ ((!decide (sbyte (q.g p.i) (↑x_1.i : Int) ≥ (128 : Int))) = true → (0 : Int) ≤ (↑x_1.i : Int)) ∧ ((!decide (sbyte (q.g p.i) (↑x_1.i : Int) ≥ (128 : Int))) = true → (↑x_1.i : Int) < (↑(q.g p.i).size : Int)) ∧ ((decide (sbyte (q.g p.i) (↑x_1.i : Int) ≥ (128 : Int)) || sbyte (q.g p.i) (↑x_1.i : Int) == (46 : Int)) = true → true = true) ∧ ((decide (sbyte (q.g p.i) (↑x_1.i : Int) ≥ (128 : Int)) || sbyte (q.g p.i) (↑x_1.i : Int) == (46 : Int)) = false → in64 ((↑x_1.i : Int) + (1 : Int)) ∧ ∃ (x' : ({ α := IL, J := npI2 q point : InvP }.J p).σ), (x'.i ≤ (q.g p.i).size ∧ plG' (q.g p.i) x'.i) ∧ (q.g p.i).size - x'.i < (q.g p.i).size - x_1.i ∧ true = true ∧ (XV.fz q.n (1 : Nat) fun (i : Nat) => [XT (q.g i)]) = sqT q ∧ point = point ∧ plOk q p.i = plOk q p.i ∧ plSz q p.i = plSz q p.i ∧ (XV.fz q.n (1 : Nat) fun (i : Nat) => [XT (q.g i)]) = sqT q ∧ (↑q.n : Int) = (↑q.n : Int) ∧ (↑p.i : Int) = (↑p.i : Int) ∧ q.g p.i = q.g p.i ∧ (↑(q.g p.i).size : Int) = (↑(q.g p.i).size : Int) ∧ (↑x_1.i : Int) + (1 : Int) = (↑x'.i : Int) ∧ True)) ∧ (decide ((↑x_1.i : Int) < (↑(q.g p.i).size : Int)) = false → (plOk q p.i = true → (q.g p.i).size ≤ (1000000000 : Nat)) ∧ in64 ((↑(q.g p.i).size : Int) + (1 : Int)) ∧ in64 (plSz q p.i + ((↑(q.g p.i).size : Int) + (1 : Int))) ∧ in64 ((↑p.i : Int) + (1 : Int)) ∧ ∃ (x' : (npI0 q point).σ), (x'.i ≤ q.n ∧ ∀ (j : Nat), j < x'.i → plG (q.g j)) ∧ q.n - x'.i < q.n - x.i ∧ true = true ∧ (XV.fz q.n (1 : Nat) fun (i : Nat) => [XT (q.g i)]) = sqT q ∧ point = point ∧ (plOk q p.i && rgt (q.g p.i)) = plOk q x'.i ∧ plSz q p.i + ((↑(q.g p.i).size : Int) + (1 : Int)) = plSz q x'.i ∧ (XV.fz q.n (1 : Nat) fun (i : Nat) => [XT (q.g i)]) = sqT q ∧ (↑q.n : Int) = (↑q.n : Int) ∧ (↑p.i : Int) + (1 : Int) = (↑x'.i : Int) ∧ True))) ∧ (decide ((↑x.i : Int) < (↑q.n : Int)) = false → (∀ (i : Nat), i < q.n → [XT (q.g i)] = [XT (q.g i)]) ∧ q.n ≤ (3000 : Nat) ∧ (∀ (i : Nat), i < q.n → (q.g i).size ≤ (1000000 : Nat)) ∧ (point = true → (ljF q.g q.n).size + (1 : Nat) ≤ (9223372036854775807 : Nat) ∧ ((!plOk q x.i) = true → ((toA (ljF q.g q.n ++ { data := #[(46 : UInt8)] : ByteArray })).snd == (1 : Int)) = true) ∧ ((!plOk q x.i) = false → (decide (plSz q x.i > (253 : Int)) = true → ((toA (ljF q.g q.n ++ { data := #[(46 : UInt8)] : ByteArray })).snd == (2 : Int)) = true) ∧ (decide (plSz q x.i > (253 : Int)) = false → (((toA (ljF q.g q.n ++ { data := #[(46 : UInt8)] : ByteArray })).snd == (0 : Int)) = true → ∀ (i : Nat), i < q.n → [XT (q.g i)] = [XT (q.g i)]) ∧ (((toA (ljF q.g q.n ++ { data := #[(46 : UInt8)] : ByteArray })).snd == (0 : Int)) = true → q.n ≤ (3000 : Nat)) ∧ (((toA (ljF q.g q.n ++ { data := #[(46 : UInt8)] : ByteArray })).snd == (0 : Int)) = true → ∀ (i : Nat), i < q.n → (q.g i).size ≤ (1000000 : Nat)) ∧ (((toA (ljF q.g q.n ++ { data := #[(46 : UInt8)] : ByteArray })).snd == (0 : Int)) = true → (ljF q.g q.n).size ≤ (1000000000 : Nat)) ∧ ((toA (ljF q.g q.n ++ { data := #[(46 : UInt8)] : ByteArray })).snd == (0 : Int) && decide ((toA (ljF q.g q.n ++ { data := #[(46 : UInt8)] : ByteArray })).fst = lowT (ljF q.g q.n))) = true))) ∧ (point = false → ((!plOk q x.i) = true → ((toA (ljF q.g q.n)).snd == (1 : Int)) = true) ∧ ((!plOk q x.i) = false → (decide (plSz q x.i > (253 : Int)) = true → ((toA (ljF q.g q.n)).snd == (2 : Int)) = true) ∧ (decide (plSz q x.i > (253 : Int)) = false → (((toA (ljF q.g q.n)).snd == (0 : Int)) = true → ∀ (i : Nat), i < q.n → [XT (q.g i)] = [XT (q.g i)]) ∧ (((toA (ljF q.g q.n)).snd == (0 : Int)) = true → q.n ≤ (3000 : Nat)) ∧ (((toA (ljF q.g q.n)).snd == (0 : Int)) = true → ∀ (i : Nat), i < q.n → (q.g i).size ≤ (1000000 : Nat)) ∧ (((toA (ljF q.g q.n)).snd == (0 : Int)) = true → (ljF q.g q.n).size ≤ (1000000000 : Nat)) ∧ ((toA (ljF q.g q.n)).snd == (0 : Int) && decide ((toA (ljF q.g q.n)).fst = lowT (ljF q.g q.n))) = true))))))
theorem plnV_eq (q : Sq ByteArray) (point : Bool) : plnV q point = (funC cxL Tryd.f4 (mkSc (npE q point) (bodyOf Tryd.f4)) [sqT q, XB point] (XB true)) := by kernel_rfl
def runV (r : Int) : Prop :=
  ((!true) = true → false = true) ∧ ((!true) = false → ((decide (r < (128 : Int)) || decide (r > (1114111 : Int)) || decide (r ≥ (55296 : Int)) && decide (r ≤ (57343 : Int))) = true → true = true) ∧ ((decide (r < (128 : Int)) || decide (r > (1114111 : Int)) || decide (r ≥ (55296 : Int)) && decide (r ≤ (57343 : Int))) = false → (1 : Nat) + (Utf8.encode r).size ≤ (9223372036854775807 : Nat) ∧ (good r == (decide (r ≥ (223 : Int)) && decide (r ≤ (255 : Int)) && r != (247 : Int) || decide (r ≥ (256 : Int)) && decide (r ≤ (311 : Int)) && bits BinOp.and IntKind.i32 r (1 : Int) == (1 : Int) || decide (r ≥ (945 : Int)) && decide (r ≤ (969 : Int)) || decide (r ≥ (1072 : Int)) && decide (r ≤ (1119 : Int))) && ((toA ({ data := #[(97 : UInt8)] : ByteArray } ++ Utf8.encode r)).snd == (0 : Int)) == (decide (r ≥ (223 : Int)) && decide (r ≤ (255 : Int)) && r != (247 : Int) || decide (r ≥ (256 : Int)) && decide (r ≤ (311 : Int)) && bits BinOp.and IntKind.i32 r (1 : Int) == (1 : Int) || decide (r ≥ (945 : Int)) && decide (r ≤ (969 : Int)) || decide (r ≥ (1072 : Int)) && decide (r ≤ (1119 : Int))) && (decide (r ≥ (223 : Int)) && decide (r ≤ (255 : Int)) && r != (247 : Int) || decide (r ≥ (256 : Int)) && decide (r ≤ (311 : Int)) && bits BinOp.and IntKind.i32 r (1 : Int) == (1 : Int) || decide (r ≥ (945 : Int)) && decide (r ≤ (969 : Int)) || decide (r ≥ (1072 : Int)) && decide (r ≤ (1119 : Int)) || (toA ({ data := #[(97 : UInt8)] : ByteArray } ++ Utf8.encode r)).snd == (1 : Int))) = true))
theorem runV_eq (r : Int) : runV r = (funC cxL Tryd.f5 .nil [X32 r] (XB true)) := by kernel_rfl
def rdI (s : ByteArray) : Inv where
  σ := IL
  S := fun x => ⟨[(7, strsL (splitS s ptT)), (8, strsL (splitS (toU s).1 ptT)), (50, XI (splitS s ptT).length), (51, XI x.i)], [], 0, false, []⟩
  inv := fun x => x.i ≤ (splitS s ptT).length
  μ := fun x => (splitS s ptT).length - x.i
def rdE (s : ByteArray) : Env := { loops := [(0, rdI s)] }
def reaV (s : ByteArray) : Prop :=
  ((!true) = true → false = true) ∧ ((!true) = false → (decide ((↑s.size : Int) > (900 : Int)) = true → true = true) ∧ (decide ((↑s.size : Int) > (900 : Int)) = false → ((!((toU s).snd == (0 : Int)) == ((toA s).snd == (0 : Int) && decide ((toA s).fst = s))) = true → false = true) ∧ ((!((toU s).snd == (0 : Int)) == ((toA s).snd == (0 : Int) && decide ((toA s).fst = s))) = false → (((toU s).snd != (0 : Int)) = true → decide ((toU s).fst = { data := #[] : ByteArray }) = true) ∧ (((toU s).snd != (0 : Int)) = false → s.size ≤ (1000000000 : Nat) ∧ (toU s).fst.size ≤ (1000000000 : Nat) ∧ (((↑(splitS s { data := #[(46 : UInt8)] : ByteArray }).length : Int) != (↑(splitS (toU s).fst { data := #[(46 : UInt8)] : ByteArray }).length : Int)) = true → false = true) ∧ (((↑(splitS s { data := #[(46 : UInt8)] : ByteArray }).length : Int) != (↑(splitS (toU s).fst { data := #[(46 : UInt8)] : ByteArray }).length : Int)) = false → (∃ (x : (rdI s).σ), x.i.le (splitS s { data := #[(46 : UInt8)] : ByteArray }).length ∧ true = true ∧ ((XV.fz (splitS s { data := #[(46 : UInt8)] : ByteArray }).length (1 : Nat) fun (i : Nat) => [XT ((splitS s { data := #[(46 : UInt8)] : ByteArray }).getD i { data := #[] : ByteArray })]) = XV.fz (splitS s { data := #[(46 : UInt8)] : ByteArray }).length (1 : Nat) fun (i : Nat) => [XT ((splitS s { data := #[(46 : UInt8)] : ByteArray }).getD i { data := #[] : ByteArray })]) ∧ ((XV.fz (splitS (toU s).fst { data := #[(46 : UInt8)] : ByteArray }).length (1 : Nat) fun (i : Nat) => [XT ((splitS (toU s).fst { data := #[(46 : UInt8)] : ByteArray }).getD i { data := #[] : ByteArray })]) = XV.fz (splitS (toU s).fst { data := #[(46 : UInt8)] : ByteArray }).length (1 : Nat) fun (i : Nat) => [XT ((splitS (toU s).fst { data := #[(46 : UInt8)] : ByteArray }).getD i { data := #[] : ByteArray })]) ∧ (↑(splitS s { data := #[(46 : UInt8)] : ByteArray }).length : Int) = (↑(splitS s { data := #[(46 : UInt8)] : ByteArray }).length : Int) ∧ (0 : Int) = (↑x.i : Int) ∧ True) ∧ ∀ (x : IL), x.i.le (splitS s { data := #[(46 : UInt8)] : ByteArray }).length → (decide ((↑x.i : Int) < (↑(splitS s { data := #[(46 : UInt8)] : ByteArray }).length : Int)) = true → (0 : Int) ≤ (↑x.i : Int) ∧ (↑x.i : Int) < (↑(splitS s { data := #[(46 : UInt8)] : ByteArray }).length : Int) ∧ (decide ((↑((splitS s { data := #[(46 : UInt8)] : ByteArray }).getD (↑x.i : Int).toNat { data := #[] : ByteArray }).size : Int) > (4 : Int)) = true → (0 : Int) ≤ (↑x.i : Int)) ∧ (decide ((↑((splitS s { data := #[(46 : UInt8)] : ByteArray }).getD (↑x.i : Int).toNat { data := #[] : ByteArray }).size : Int) > (4 : Int)) = true → (↑x.i : Int) < (↑(splitS s { data := #[(46 : UInt8)] : ByteArray }).length : Int)) ∧ (decide ((↑((splitS s { data := #[(46 : UInt8)] : ByteArray }).getD (↑x.i : Int).toNat { data := #[] : ByteArray }).size : Int) > (4 : Int)) = true → (0 : Int) ≤ (0 : Int)) ∧ (decide ((↑((splitS s { data := #[(46 : UInt8)] : ByteArray }).getD (↑x.i : Int).toNat { data := #[] : ByteArray }).size : Int) > (4 : Int)) = true → (0 : Int) ≤ (4 : Int)) ∧ (decide ((↑((splitS s { data := #[(46 : UInt8)] : ByteArray }).getD (↑x.i : Int).toNat { data := #[] : ByteArray }).size : Int) > (4 : Int)) = true → (4 : Int) ≤ (↑((splitS s { data := #[(46 : UInt8)] : ByteArray }).getD (↑x.i : Int).toNat { data := #[] : ByteArray }).size : Int)) ∧ (0 : Int) ≤ (↑x.i : Int) ∧ (↑x.i : Int) < (↑(splitS s { data := #[(46 : UInt8)] : ByteArray }).length : Int) ∧ (0 : Int) ≤ (↑x.i : Int) ∧ (↑x.i : Int) < (↑(splitS (toU s).fst { data := #[(46 : UInt8)] : ByteArray }).length : Int) ∧ (((decide ((↑((splitS s { data := #[(46 : UInt8)] : ByteArray }).getD (↑x.i : Int).toNat { data := #[] : ByteArray }).size : Int) > (4 : Int)) && decide (((splitS s { data := #[(46 : UInt8)] : ByteArray }).getD (↑x.i : Int).toNat { data := #[] : ByteArray }).extract ((0 : Nat)) ((4 : Nat)) = { data := #[(120 : UInt8), (110 : UInt8), (45 : UInt8), (45 : UInt8)] : ByteArray })) == decide ((splitS s { data := #[(46 : UInt8)] : ByteArray }).getD (↑x.i : Int).toNat { data := #[] : ByteArray } = (splitS (toU s).fst { data := #[(46 : UInt8)] : ByteArray }).getD (↑x.i : Int).toNat { data := #[] : ByteArray })) = true → false = true) ∧ (((decide ((↑((splitS s { data := #[(46 : UInt8)] : ByteArray }).getD (↑x.i : Int).toNat { data := #[] : ByteArray }).size : Int) > (4 : Int)) && decide (((splitS s { data := #[(46 : UInt8)] : ByteArray }).getD (↑x.i : Int).toNat { data := #[] : ByteArray }).extract ((0 : Nat)) ((4 : Nat)) = { data := #[(120 : UInt8), (110 : UInt8), (45 : UInt8), (45 : UInt8)] : ByteArray })) == decide ((splitS s { data := #[(46 : UInt8)] : ByteArray }).getD (↑x.i : Int).toNat { data := #[] : ByteArray } = (splitS (toU s).fst { data := #[(46 : UInt8)] : ByteArray }).getD (↑x.i : Int).toNat { data := #[] : ByteArray })) = false → in64 ((↑x.i : Int) + (1 : Int)) ∧ ∃ (x' : (rdI s).σ), x'.i.le (splitS s { data := #[(46 : UInt8)] : ByteArray }).length ∧ (splitS s { data := #[(46 : UInt8)] : ByteArray }).length - x'.i < (splitS s { data := #[(46 : UInt8)] : ByteArray }).length - x.i ∧ true = true ∧ ((XV.fz (splitS s { data := #[(46 : UInt8)] : ByteArray }).length (1 : Nat) fun (i : Nat) => [XT ((splitS s { data := #[(46 : UInt8)] : ByteArray }).getD i { data := #[] : ByteArray })]) = XV.fz (splitS s { data := #[(46 : UInt8)] : ByteArray }).length (1 : Nat) fun (i : Nat) => [XT ((splitS s { data := #[(46 : UInt8)] : ByteArray }).getD i { data := #[] : ByteArray })]) ∧ ((XV.fz (splitS (toU s).fst { data := #[(46 : UInt8)] : ByteArray }).length (1 : Nat) fun (i : Nat) => [XT ((splitS (toU s).fst { data := #[(46 : UInt8)] : ByteArray }).getD i { data := #[] : ByteArray })]) = XV.fz (splitS (toU s).fst { data := #[(46 : UInt8)] : ByteArray }).length (1 : Nat) fun (i : Nat) => [XT ((splitS (toU s).fst { data := #[(46 : UInt8)] : ByteArray }).getD i { data := #[] : ByteArray })]) ∧ (↑(splitS s { data := #[(46 : UInt8)] : ByteArray }).length : Int) = (↑(splitS s { data := #[(46 : UInt8)] : ByteArray }).length : Int) ∧ (↑x.i : Int) + (1 : Int) = (↑x'.i : Int) ∧ True)) ∧ (decide ((↑x.i : Int) < (↑(splitS s { data := #[(46 : UInt8)] : ByteArray }).length : Int)) = false → true = true))))))
theorem reaV_eq (s : ByteArray) : reaV s = (funC cxL Tryd.f8 (mkSc (rdE s) (bodyOf Tryd.f8)) [XT s] (XB true)) := by kernel_rfl
def riI (s : ByteArray) : Inv where
  σ := IL
  S := fun x => ⟨[(3, XT (toA s).1), (20, strsL (splitS (toA s).1 ptT)), (21, XI (splitS (toA s).1 ptT).length), (22, XI x.i)], [], 0, false, []⟩
  inv := fun x => x.i ≤ (splitS (toA s).1 ptT).length
  μ := fun x => (splitS (toA s).1 ptT).length - x.i
def riE (s : ByteArray) : Env := { loops := [(0, riI s)] }
def rigV (s : ByteArray) : Prop :=
  ((!true) = true → false = true) ∧ ((!true) = false → (decide ((↑s.size : Int) > (1500 : Int)) = true → true = true) ∧ (decide ((↑s.size : Int) > (1500 : Int)) = false → (((toA s).snd != (0 : Int)) = true → true = true) ∧ (((toA s).snd != (0 : Int)) = false → (toA s).fst.size ≤ (1000000000 : Nat) ∧ (∃ (x : (riI s).σ), x.i.le (splitS (toA s).fst { data := #[(46 : UInt8)] : ByteArray }).length ∧ true = true ∧ (toA s).fst = (toA s).fst ∧ ((XV.fz (splitS (toA s).fst { data := #[(46 : UInt8)] : ByteArray }).length (1 : Nat) fun (i : Nat) => [XT ((splitS (toA s).fst { data := #[(46 : UInt8)] : ByteArray }).getD i { data := #[] : ByteArray })]) = XV.fz (splitS (toA s).fst { data := #[(46 : UInt8)] : ByteArray }).length (1 : Nat) fun (i : Nat) => [XT ((splitS (toA s).fst { data := #[(46 : UInt8)] : ByteArray }).getD i { data := #[] : ByteArray })]) ∧ (↑(splitS (toA s).fst { data := #[(46 : UInt8)] : ByteArray }).length : Int) = (↑(splitS (toA s).fst { data := #[(46 : UInt8)] : ByteArray }).length : Int) ∧ (0 : Int) = (↑x.i : Int) ∧ True) ∧ ∀ (x : IL), x.i.le (splitS (toA s).fst { data := #[(46 : UInt8)] : ByteArray }).length → (decide ((↑x.i : Int) < (↑(splitS (toA s).fst { data := #[(46 : UInt8)] : ByteArray }).length : Int)) = true → (0 : Int) ≤ (↑x.i : Int) ∧ (↑x.i : Int) < (↑(splitS (toA s).fst { data := #[(46 : UInt8)] : ByteArray }).length : Int) ∧ ((splitS (toA s).fst { data := #[(46 : UInt8)] : ByteArray }).getD (↑x.i : Int).toNat { data := #[] : ByteArray }).size ≤ (1000000000 : Nat) ∧ ((!rgt ((splitS (toA s).fst { data := #[(46 : UInt8)] : ByteArray }).getD (↑x.i : Int).toNat { data := #[] : ByteArray })) = true → false = true) ∧ ((!rgt ((splitS (toA s).fst { data := #[(46 : UInt8)] : ByteArray }).getD (↑x.i : Int).toNat { data := #[] : ByteArray })) = false → in64 ((↑x.i : Int) + (1 : Int)) ∧ ∃ (x' : (riI s).σ), x'.i.le (splitS (toA s).fst { data := #[(46 : UInt8)] : ByteArray }).length ∧ (splitS (toA s).fst { data := #[(46 : UInt8)] : ByteArray }).length - x'.i < (splitS (toA s).fst { data := #[(46 : UInt8)] : ByteArray }).length - x.i ∧ true = true ∧ (toA s).fst = (toA s).fst ∧ ((XV.fz (splitS (toA s).fst { data := #[(46 : UInt8)] : ByteArray }).length (1 : Nat) fun (i : Nat) => [XT ((splitS (toA s).fst { data := #[(46 : UInt8)] : ByteArray }).getD i { data := #[] : ByteArray })]) = XV.fz (splitS (toA s).fst { data := #[(46 : UInt8)] : ByteArray }).length (1 : Nat) fun (i : Nat) => [XT ((splitS (toA s).fst { data := #[(46 : UInt8)] : ByteArray }).getD i { data := #[] : ByteArray })]) ∧ (↑(splitS (toA s).fst { data := #[(46 : UInt8)] : ByteArray }).length : Int) = (↑(splitS (toA s).fst { data := #[(46 : UInt8)] : ByteArray }).length : Int) ∧ (↑x.i : Int) + (1 : Int) = (↑x'.i : Int) ∧ True)) ∧ (decide ((↑x.i : Int) < (↑(splitS (toA s).fst { data := #[(46 : UInt8)] : ByteArray }).length : Int)) = false → (decide ((↑(toA s).fst.size : Int) ≤ (253 : Int)) = true → (toA s).fst.size ≤ (1000000000 : Nat)) ∧ ((decide ((↑(toA s).fst.size : Int) ≤ (253 : Int)) && decide (lowT (toA s).fst = (toA s).fst)) = true → in64 (cntB (toA s).fst { data := #[(46 : UInt8)] : ByteArray } + (1 : Int))) ∧ ((decide ((↑(toA s).fst.size : Int) ≤ (253 : Int)) && decide (lowT (toA s).fst = (toA s).fst)) = true → (toA s).fst.size ≤ (1000000 : Nat)) ∧ (decide ((↑(toA s).fst.size : Int) ≤ (253 : Int)) && decide (lowT (toA s).fst = (toA s).fst) && cntB (toA s).fst { data := #[(46 : UInt8)] : ByteArray } + (1 : Int) == cntL (toA s).fst) = true))))
theorem rigV_eq (s : ByteArray) : rigV s = (funC cxL Tryd.f10 (mkSc (riE s) (bodyOf Tryd.f10)) [XT s] (XB true)) := by kernel_rfl
def bacV (s : ByteArray) : Prop :=
  ((!true) = true → false = true) ∧ ((!true) = false → (decide ((↑s.size : Int) > (1500 : Int)) = true → true = true) ∧ (decide ((↑s.size : Int) > (1500 : Int)) = false → (((toA s).snd != (0 : Int)) = true → (decide ((toA s).fst = { data := #[] : ByteArray }) && ((toA s).snd == (1 : Int) || (toA s).snd == (3 : Int) || (toA s).snd == (2 : Int))) = true) ∧ (((toA s).snd != (0 : Int)) = false → (((toU (toA s).fst).snd != (0 : Int)) = true → false = true) ∧ (((toU (toA s).fst).snd != (0 : Int)) = false → ((toA (toU (toA s).fst).fst).snd == (0 : Int) && decide ((toA (toU (toA s).fst).fst).fst = (toA s).fst) && (toA (toA s).fst).snd == (0 : Int) && decide ((toA (toA s).fst).fst = (toA s).fst)) = true))))
theorem bacV_eq (s : ByteArray) : bacV s = (funC cxL Tryd.f3 .nil [XT s] (XB true)) := by kernel_rfl
end Go.Proofs.YtedmgnhbfpjceaaDoorAv
set_option linter.unusedVariables false
set_option linter.unusedSimpArgs false
set_option maxRecDepth 100000
namespace Go.Proofs.YtedmgnhbfpjceaaDoorAv
open Go Go.RowKit
theorem LL_join {l : List (List UInt8)} (hl : l ≠ []) (h : ∀ x ∈ l, ∀ c ∈ x, c ≠ 46) (h2 : l.getLast? ≠ some []) : LL (join46 l) = l := by
  have hs := split_join hl h
  rw [LL_no, hs]
  intro t ht
  rw [ht, split1_app] at hs
  apply h2
  rw [← hs]
  show (split1 46 t ++ [[]]).getLast? = _
  simp
theorem LOK.ne {t : List UInt8} (h : LOK t) : t ≠ [] := List.length_pos_iff.1 h.len.1
theorem last_mem {α : Type} {l : List α} {x : α} (h : l.getLast? = some x) : x ∈ l := List.mem_of_getLast? h
theorem LL_LOK {l : List (List UInt8)} (hl : l ≠ []) (h : ∀ x ∈ l, LOK x) : LL (join46 l) = l ∧ split1 46 (join46 l) = l := by
  refine ⟨LL_join hl (fun x hx => (h x hx).dot) fun e => (h _ (last_mem e)).ne rfl, split_join hl fun x hx => (h x hx).dot⟩
/-- A label and what it is read as. -/
theorem LOK.uL {t : List UInt8} (h : LOK t) : (uL t).2 = 0 ∧ aL (uL t).1 = (t, 0) ∧ (∀ c ∈ (uL t).1, c ≠ 46) ∧ (uL t).1 ≠ [] ∧ (uL t).1.length ≤ 2 * t.length ∧ ((uL t).1 = t ↔ xnL.isPrefixOf t = false) := by
  cases k : xnL.isPrefixOf t
  · rw [uL_no k]
    exact ⟨rfl, h.asc, h.dot, h.ne, by show t.length ≤ _; omega, by simp⟩
  · obtain ⟨q1, q2, q3, q4, q5, q6⟩ := h.back k
    exact ⟨q1, q2, q3, q5, q6, by simp [q4]⟩
theorem uLs {l : List (List UInt8)} (hl : l ≠ []) (h : ∀ x ∈ l, LOK x) : LL (join46 (l.map fun x => (uL x).1)) = l.map (fun x => (uL x).1) ∧ split1 46 (join46 (l.map fun x => (uL x).1)) = l.map (fun x => (uL x).1) := by
  have hd : ∀ x ∈ l.map (fun x => (uL x).1), ∀ c ∈ x, c ≠ 46 := fun x hx => by
    obtain ⟨y, hy, rfl⟩ := List.mem_map.1 hx
    exact (h y hy).uL.2.2.1
  refine ⟨LL_join (by simp [hl]) hd fun e => ?_, split_join (by simp [hl]) hd⟩
  obtain ⟨y, hy, e2⟩ := List.mem_map.1 (last_mem e)
  exact (h y hy).uL.2.2.2.1 e2
theorem join_len_le {l : List (List UInt8)} {f : List UInt8 → List UInt8} (h : ∀ x ∈ l, (f x).length ≤ 2 * x.length) : (join46 (l.map f)).length ≤ 2 * (join46 l).length := by
  induction l with
  | nil => simp [join46]
  | cons x l ih =>
    have hx := h x (by simp)
    have ih := ih fun y hy => h y (by simp [hy])
    by_cases e : l = []
    · subst e; exact hx
    · rw [List.map_cons, join46_cons _ (by simp [e]), join46_cons _ e, List.length_append, List.length_append, List.length_cons, List.length_cons]; omega
theorem tA_join {l : List (List UInt8)} (hl : l ≠ []) (h : ∀ x ∈ l, LOK x) (hs : (join46 l).length ≤ 253) : tA (join46 l) = (join46 l, 0) := by
  have hE : eL l = 0 := ee_zero.2 fun x hx => by rw [(h x hx).asc]
  have hJ : jL l = join46 l := by
    unfold jL
    congr 1
    conv => rhs; rw [← List.map_id l]
    exact List.map_congr_left fun x hx => by rw [(h x hx).asc]; rfl
  rw [tA_tL (by omega), (LL_LOK hl h).1, tL_ok hE (by rw [hJ]; omega), hJ]
theorem tU_join {l : List (List UInt8)} (hl : l ≠ []) (h : ∀ x ∈ l, LOK x) (hs : (join46 l).length ≤ 253) : tU (join46 l) = (join46 (l.map fun x => (uL x).1), 0) := by
  rw [tU, tA_join hl h hs, if_neg (by simp), (LL_LOK hl h).1]
  exact eR_ok (ee_zero.2 fun x hx => (h x hx).uL.1)
theorem tA_back {l : List (List UInt8)} (hl : l ≠ []) (h : ∀ x ∈ l, LOK x) (hs : (join46 l).length ≤ 253) : tA (join46 (l.map fun x => (uL x).1)) = (join46 l, 0) := by
  have hb := join_len_le (f := fun x => (uL x).1) fun x hx => (h x hx).uL.2.2.2.2.1
  have hE : eL (l.map fun x => (uL x).1) = 0 := by
    unfold eL
    rw [ee_map]
    exact ee_zero.2 fun x hx => by rw [(h x hx).uL.2.1]
  have hJ : jL (l.map fun x => (uL x).1) = join46 l := by
    unfold jL
    rw [List.map_map]
    congr 1
    conv => rhs; rw [← List.map_id l]
    exact List.map_congr_left fun x hx => by show (aL (uL x).1).1 = x; rw [(h x hx).uL.2.1]
  rw [tA_tL (by omega), (uLs hl h).1, tL_ok hE (by rw [hJ]; omega), hJ]
theorem LL_each (s : List UInt8) : ∀ x ∈ LL s, x.length ≤ s.length := by
  intro x hx
  have h1 := split1_each 46 _ x hx
  have h2 : (trim46 s).length ≤ s.length := by
    unfold trim46 Lib.trimSuffix
    split
    · rw [List.length_take]; omega
    · exact Nat.le_refl _
  omega
/-- What goes out. -/
theorem tA_zero {s : List UInt8} (h : (tA s).2 = 0) : ∃ l, l ≠ [] ∧ (∀ x ∈ l, LOK x) ∧ (tA s).1 = join46 l ∧ (join46 l).length ≤ 253 := by
  by_cases hs : s.length ≤ 1012
  · rw [tA_tL hs] at h ⊢
    obtain ⟨h1, h2, h3⟩ := tL_zero h
    refine ⟨(LL s).map fun x => (aL x).1, by simp [LL_ne], fun x hx => ?_, h3, by have : jL (LL s) = join46 ((LL s).map fun x => (aL x).1) := rfl; rw [← this]; omega⟩
    obtain ⟨y, hy, rfl⟩ := List.mem_map.1 hx
    exact aL_LOK (by have := LL_each s y hy; omega) (ee_zero.1 h1 y hy)
  · rw [tA, if_pos (by omega)] at h; exact absurd h (by decide)
/-! Which errors -/
def er (e : Int) : Prop := e = 0 ∨ e = 1 ∨ e = 2 ∨ e = 3
theorem encG_er (g : Nat → Int) (len : Nat) (h0 : Int) : ∀ f n s, (encG g len h0 f n s).2 = 0 ∨ (encG g len h0 f n s).2 = 2
  | 0, n, s => by
    rw [encG]
    split
    · exact .inr rfl
    · exact .inl rfl
  | f + 1, n, s => by
    rw [encG]
    split
    · exact .inr rfl
    · split
      · exact encG_er g len h0 f _ _
      · exact .inl rfl
theorem ascL_er (l : List Int) : er (ascL l).2 := by
  have hE := encG_er (fun j => l.getD j 0) l.length ((eo0 (fun j => l.getD j 0) l.length).length) l.length 128 ⟨(eo0 (fun j => l.getD j 0) l.length).length, 0, 72, eo1 (fun j => l.getD j 0) l.length⟩
  have hE : (encR (fun j => l.getD j 0) l.length).2 = 0 ∨ (encR (fun j => l.getD j 0) l.length).2 = 2 := hE
  rw [ascL]
  split
  · exact .inr (.inl rfl)
  · split
    · exact .inr (.inl rfl)
    · split
      · rcases hE with e | e
        · exact .inl e
        · exact .inr (.inr (.inl e))
      · split
        · exact .inr (.inr (.inl rfl))
        · exact .inl rfl
theorem decK_er (s : ByteArray) (o : Option (List Int)) : (decK s o).2 = 0 ∨ (decK s o).2 = 3 := by
  cases o with
  | none => rw [decK]; exact .inr rfl
  | some o =>
    rw [decK]
    split
    · exact .inr rfl
    · exact .inl rfl
theorem decR_er (s : ByteArray) : (decR s).2 = 0 ∨ (decR s).2 = 3 := by
  rw [decR]
  split
  · exact .inr rfl
  · split
    · exact .inr rfl
    · exact decK_er _ _
theorem uniL_er (l : List Int) : (uniL l).2 = 0 ∨ (uniL l).2 = 3 := by
  rw [uniL]
  split
  · exact .inr rfl
  · split
    · exact .inr rfl
    · exact .inl rfl
theorem uL_er (t : List UInt8) : (uL t).2 = 0 ∨ (uL t).2 = 3 := by
  show (uniR (mk8 t)).2 = 0 ∨ (uniR (mk8 t)).2 = 3
  rw [uniR]
  split
  · exact .inl rfl
  · split
    · exact decR_er _
    · exact uniL_er _
theorem aL_er (x : List UInt8) : er (aL x).2 := by
  rw [aL_aS, aS]
  split
  · split
    · exact .inr (.inl rfl)
    · split
      · rcases uL_er (x.map lowc) with e | e
        · exact .inl e
        · exact .inr (.inr (.inr e))
      · exact .inl rfl
  · split
    · exact .inr (.inl rfl)
    · exact ascL_er _
theorem tA_er (s : List UInt8) : er (tA s).2 ∧ ((tA s).2 ≠ 0 → (tA s).1 = []) := by
  by_cases hs : s.length ≤ 1012
  · rw [tA_tL hs]
    by_cases e : eL (LL s) = 0
    · by_cases h2 : (jL (LL s)).length > 253
      · rw [tL_long e h2]; exact ⟨.inr (.inr (.inl rfl)), fun _ => rfl⟩
      · rw [tL_ok e h2]; exact ⟨.inl rfl, fun h => absurd rfl h⟩
    · rw [tL_err e]
      refine ⟨?_, fun _ => rfl⟩
      obtain ⟨x, hx, e2⟩ := ee_mem (F := fun x => (aL x).2) e
      show er (ee (fun x => (aL x).2) (LL s))
      rw [e2]
      exact aL_er x
  · rw [tA, if_pos (by omega)]; exact ⟨.inr (.inr (.inl rfl)), fun _ => rfl⟩
/-! The laws -/
theorem bac_v (s : ByteArray) : bacV s := by
  unfold bacV
  refine ⟨fun h => absurd h (by decide), fun _ => ⟨fun _ => rfl, fun _ => ⟨fun h => ?_, fun h => ⟨fun h2 => ?_, fun h2 => ?_⟩⟩⟩⟩
  · rw [toA_tA] at h ⊢
    have h : (tA s.data.toList).2 ≠ 0 := by simpa using h
    obtain ⟨q1, q2⟩ := tA_er s.data.toList
    dsimp only
    rw [q2 h]
    rcases q1 with e | e | e | e
    · exact absurd e h
    · rw [e]; rfl
    · rw [e]; rfl
    · rw [e]; rfl
  all_goals
    rw [toA_tA] at h
    have h : (tA s.data.toList).2 = 0 := by simpa using h
    obtain ⟨l, l1, l2, l3, l4⟩ := tA_zero h
    rw [toA_tA s, l3] at h2
    rw [toU_tU, mk8_data, tU_join l1 l2 l4] at h2
  · exact absurd h2 (by simp)
  · rw [toA_tA s, l3, toU_tU, mk8_data, tU_join l1 l2 l4, toA_tA, mk8_data, tA_back l1 l2 l4, toA_tA, mk8_data, tA_join l1 l2 l4]
    simp
theorem cnt_split (s : List UInt8) : (split1 46 s).length = s.count 46 + 1 := by
  induction s with
  | nil => rfl
  | cons c s ih =>
    by_cases h : c = 46
    · subst h; rw [split1_dotc, List.length_cons, ih, List.count_cons_self]
    · obtain ⟨y, t, hs⟩ := split1_ex s
      rw [hs] at ih
      rw [split1_oth h hs, List.count_cons_of_ne (by simpa using h), ← ih]; rfl
theorem map_getD {l : List (List UInt8)} {i : Nat} (h : i < l.length) : (l.map mk8).getD i ⟨#[]⟩ = mk8 (l.getD i []) := by
  rw [List.getD_eq_getElem?_getD, List.getElem?_map, List.getElem?_eq_getElem h, List.getD_eq_getElem?_getD, List.getElem?_eq_getElem h]
  rfl
theorem getD_mem {α : Type} {l : List α} {i : Nat} {d : α} (h : i < l.length) : l.getD i d ∈ l := by
  rw [List.getD_eq_getElem?_getD, List.getElem?_eq_getElem h]; exact List.getElem_mem h
theorem joined_low {l : List (List UInt8)} (h : ∀ x ∈ l, LOK x) : (join46 l).map lowc = join46 l := by
  rw [join46_map lowc (by decide)]
  congr 1
  conv => rhs; rw [← List.map_id l]
  exact List.map_congr_left fun x hx => (h x hx).low
theorem rig_v (s : ByteArray) : rigV s := by
  unfold rigV
  refine ⟨fun h => absurd h (by decide), fun _ => ⟨fun _ => rfl, fun _ => ⟨fun _ => rfl, fun h => ?_⟩⟩⟩
  rw [toA_tA] at h ⊢
  have h : (tA s.data.toList).2 = 0 := by simpa using h
  obtain ⟨l, l1, l2, l3, l4⟩ := tA_zero h
  rw [l3]
  dsimp only
  rw [splitS_one, mk8_data, (LL_LOK l1 l2).2, mk8_size, List.length_map]
  refine ⟨by omega, ⟨⟨0⟩, Nat.zero_le _, rfl, rfl, rfl, rfl, rfl, trivial⟩, ?_⟩
  rintro ⟨i⟩ hi
  have hi : i ≤ l.length := hi
  have hlen : l.length ≤ 254 := by
    have := split1_len 46 (join46 l)
    rw [(LL_LOK l1 l2).2] at this; omega
  refine ⟨fun h1 => ?_, fun h1 => ?_⟩
  · have h1 : (i : Int) < l.length := of_decide_eq_true h1
    have hi2 : i < l.length := by omega
    have hL := l2 _ (getD_mem (d := []) hi2)
    dsimp only
    rw [Int.toNat_natCast, map_getD hi2, rgt_list, mk8_data, hL.rgt, mk8_size]
    have := hL.len
    exact ⟨by omega, by omega, by omega, fun k => absurd k (by decide), fun _ => ⟨by unfold in64; omega, ⟨i + 1⟩, (show i + 1 ≤ l.length by omega), (show l.length - (i + 1) < l.length - i by omega), rfl, rfl, rfl, rfl, rfl, trivial⟩⟩
  · have hc : cntB (mk8 (join46 l)) ⟨#[46]⟩ + 1 = l.length := by
      have := cnt_split (join46 l)
      rw [(LL_LOK l1 l2).2] at this
      show ((join46 l).count 46 : Int) + 1 = _
      omega
    have hcl : cntL (mk8 (join46 l)) = l.length := by
      unfold cntL
      rw [if_neg]
      · unfold ptT
        rw [splitS_one, mk8_data, (LL_LOK l1 l2).2, List.length_map]
      · intro e
        have e : join46 l = [46] := congrArg (·.data.toList) e
        have h2 := (LL_LOK l1 l2).2
        rw [e] at h2
        have : ([] : List UInt8) ∈ l := by rw [← h2]; simp [split1]
        exact (l2 _ this).ne rfl
    refine ⟨fun _ => by omega, fun _ => by unfold in64; omega, fun _ => by omega, ?_⟩
    rw [hc, hcl, low_mk8, joined_low l2, decide_eq_true (by omega)]
    simp
theorem ext_four (t : List UInt8) : (mk8 t).extract 0 4 = xnT ↔ xnL.isPrefixOf t = true := by
  rw [Lib.extract_eq, mk8_data, List.isPrefixOf_iff_prefix, List.prefix_iff_eq_take]
  rw [show xnT = mk8 xnL from rfl, show (⟨((t.drop 0).take (4 - 0)).toArray⟩ : ByteArray) = mk8 (t.take 4) from rfl, mk8_inj]
  exact eq_comm
theorem LOK.four {t : List UInt8} (h : LOK t) (k : xnL.isPrefixOf t = true) : 4 < t.length := by
  obtain ⟨t', rfl⟩ := pre_ex k
  cases t' with
  | nil =>
    have := h.rgt
    exact absurd this (by decide)
  | cons a t' => rw [List.length_append, List.length_cons]; have : xnL.length = 4 := rfl; omega
theorem rea_v (s : ByteArray) : reaV s := by
  unfold reaV
  rw [toU_tU, toA_tA]
  dsimp only
  refine ⟨fun h => absurd h (by decide), fun _ => ⟨fun _ => rfl, fun hs => ?_⟩⟩
  have hs : s.size ≤ 900 := by have := of_decide_eq_false hs; omega
  have hiff : decide (mk8 (tA s.data.toList).1 = s) = decide ((tA s.data.toList).1 = s.data.toList) := by
    rw [decide_eq_decide]
    have := mk8_inj (a := (tA s.data.toList).1) (b := s.data.toList)
    rw [data_mk8] at this
    exact this
  rw [hiff]
  by_cases h : (tA s.data.toList).2 = 0 ∧ (tA s.data.toList).1 = s.data.toList
  · obtain ⟨h1, h2⟩ := h
    obtain ⟨l, l1, l2, l3, l4⟩ := tA_zero h1
    rw [l3] at h2
    have hU := tU_join l1 l2 l4
    rw [l3, h1, splitS_one, splitS_one, size_data, mk8_data, ← h2, hU, (LL_LOK l1 l2).2]
    dsimp only
    rw [(uLs l1 l2).2, List.length_map, List.length_map, List.length_map, mk8_size]
    have hb := join_len_le (f := fun x => (uL x).1) fun x hx => (l2 x hx).uL.2.2.2.2.1
    refine ⟨fun k => absurd k (by simp), fun _ => ⟨fun k => absurd k (by simp), fun _ => ⟨by omega, by omega, fun k => absurd k (by simp), fun _ => ⟨⟨⟨0⟩, Nat.zero_le _, rfl, rfl, rfl, rfl, rfl, trivial⟩, ?_⟩⟩⟩⟩
    rintro ⟨i⟩ hi
    have hi : i ≤ l.length := hi
    have hlen : l.length ≤ 254 := by
      have := split1_len 46 (join46 l)
      rw [(LL_LOK l1 l2).2] at this; omega
    refine ⟨fun h1 => ?_, fun h1 => rfl⟩
    have h1 : (i : Int) < l.length := of_decide_eq_true h1
    have hi2 : i < l.length := by omega
    have hL := l2 _ (getD_mem (d := []) hi2)
    have hg : (l.map fun x => (uL x).1).getD i [] = (uL (l.getD i [])).1 := by
      rw [List.getD_eq_getElem?_getD, List.getElem?_map, List.getElem?_eq_getElem hi2, List.getD_eq_getElem?_getD, List.getElem?_eq_getElem hi2]
      rfl
    dsimp only
    rw [Int.toNat_natCast, map_getD hi2, map_getD (by rw [List.length_map]; exact hi2), hg]
    generalize l.getD i [] = t at hL ⊢
    have h6 := hL.uL.2.2.2.2.2
    have hfin : (decide (((mk8 t).size : Int) > 4) && decide ((mk8 t).extract 0 4 = ⟨#[120, 110, 45, 45]⟩)) = !decide (mk8 t = mk8 (uL t).1) := by
      have e1 : decide (mk8 t = mk8 (uL t).1) = !xnL.isPrefixOf t := by
        rw [Bool.eq_iff_iff, decide_eq_true_eq, mk8_inj, eq_comm, h6]
        cases xnL.isPrefixOf t <;> simp
      have e2 : decide ((mk8 t).extract 0 4 = ⟨#[120, 110, 45, 45]⟩) = xnL.isPrefixOf t := by
        rw [Bool.eq_iff_iff, decide_eq_true_eq]
        exact ext_four t
      rw [e1, e2]
      cases k : xnL.isPrefixOf t
      · simp
      · have := hL.four k
        rw [mk8_size, decide_eq_true (by omega)]; rfl
    rw [hfin]
    refine ⟨by omega, by omega, fun _ => by omega, fun _ => by omega, fun _ => by omega, fun _ => by omega, fun k => ?_, by omega, by omega, by omega, by omega, fun k => ?_, fun _ => ⟨by unfold in64; omega, ⟨i + 1⟩, (show i + 1 ≤ l.length by omega), (show l.length - (i + 1) < l.length - i by omega), rfl, rfl, rfl, rfl, rfl, trivial⟩⟩
    · have := of_decide_eq_true k
      omega
    · exfalso
      cases hq : decide (mk8 t = mk8 (uL t).1) <;> rw [hq] at k <;> cases k
  · have hU : tU s.data.toList = ([], 1) := by
      rw [tU, if_pos]
      by_cases k : (tA s.data.toList).2 = 0
      · exact .inr fun e => h ⟨k, e⟩
      · exact .inl k
    have hf : ((tA s.data.toList).2 == 0 && decide ((tA s.data.toList).1 = s.data.toList)) = false := by
      rw [Bool.and_eq_false_iff]
      by_cases k : (tA s.data.toList).2 = 0
      · exact .inr (decide_eq_false fun e => h ⟨k, e⟩)
      · exact .inl (beq_eq_false_iff_ne.2 k)
    rw [hU, hf]
    exact ⟨fun k => absurd k (by decide), fun _ => ⟨fun _ => rfl, fun k => absurd k (by decide)⟩⟩
end Go.Proofs.YtedmgnhbfpjceaaDoorAv
set_option linter.unusedVariables false
set_option linter.unusedSimpArgs false
set_option maxRecDepth 100000
namespace Go.Proofs.YtedmgnhbfpjceaaDoorAv
open Go Go.RowKit
/-! NameRunes -/
def okV (r : Int) : Prop := 128 ≤ r ∧ r ≤ 1114111 ∧ (r < 55296 ∨ 57343 < r)
theorem val_V {r : Int} (h : okV r) : Utf8.valid r = true := by
  obtain ⟨h1, h2, h3⟩ := h
  unfold Utf8.valid
  rcases h3 with h3 | h3
  · rw [decide_eq_true (show 0 ≤ r by omega), decide_eq_true h3]; rfl
  · rw [decide_eq_true (show (57344 : Int) ≤ r by omega), decide_eq_true (show r ≤ 1114111 by omega)]; simp
theorem u8_nat {n : Nat} (h : n < 256) : (UInt8.ofNat n).toNat = n := by rw [UInt8.toNat_ofNat']; omega
theorem e8_hi {r : Int} (h : okV r) : ∀ c ∈ e8 r, 128 ≤ c.toNat := by
  have hv := val_V h
  obtain ⟨h1, h2, h3⟩ := h
  intro c hc
  unfold e8 Utf8.encode at hc
  rw [hv, if_pos rfl] at hc
  dsimp only at hc
  rw [if_neg (by omega)] at hc
  split at hc
  · simp only [List.mem_cons, List.not_mem_nil, or_false] at hc
    rcases hc with rfl | rfl <;> rw [u8_nat (by omega)] <;> omega
  · split at hc
    · simp only [List.mem_cons, List.not_mem_nil, or_false] at hc
      rcases hc with rfl | rfl | rfl <;> rw [u8_nat (by omega)] <;> omega
    · simp only [List.mem_cons, List.not_mem_nil, or_false] at hc
      rcases hc with rfl | rfl | rfl | rfl <;> rw [u8_nat (by omega)] <;> omega
theorem e8_big {r : Int} (h : okV r) (hb : 2048 ≤ r) : ∃ c t, e8 r = c :: t ∧ 224 ≤ c.toNat := by
  have hv := val_V h
  obtain ⟨h1, h2, h3⟩ := h
  unfold e8 Utf8.encode
  rw [hv, if_pos rfl]
  dsimp only
  rw [if_neg (by omega), if_neg (by omega)]
  split
  · exact ⟨_, _, rfl, by rw [u8_nat (by omega)]; omega⟩
  · exact ⟨_, _, rfl, by rw [u8_nat (by omega)]; omega⟩
theorem e8_len {r : Int} : (e8 r).length ≤ 4 := by
  have := enc8_size r
  rw [size_data] at this
  exact this
theorem decN_big {n b0 b1 b2 b3 : Nat} (h : 224 ≤ b0) : 2048 ≤ (Lib.decodeN n b0 b1 b2 b3).1 := by
  unfold Lib.decodeN
  rw [if_neg (by omega), if_neg (by omega)]
  repeat' split
  all_goals (dsimp only; omega)
theorem ascL_bad {l : List Int} {r : Int} (hr : r ∈ l) (hb : badC r = true) : ascL l = (⟨#[]⟩, 1) := by
  have h : bdN l l.length = true := by
    cases e : bdN l l.length
    · have := bdN_len.1 e r hr
      rw [this] at hb; cases hb
    · rfl
  rw [ascL, h, if_pos rfl]
theorem LL_one {x : List UInt8} (h : ∀ c ∈ x, c ≠ 46) (h2 : x ≠ []) : LL x = [x] := by
  have := LL_join (l := [x]) (by simp) (by simpa using h) (by simpa using h2)
  exact this
theorem tA_one {x : List UInt8} (h : ∀ c ∈ x, c ≠ 46) (h2 : x ≠ []) (hs : x.length ≤ 1000) : (tA x).2 = (aL x).2 := by
  rw [tA_tL (by omega), LL_one h h2]
  have hE : eL [x] = (aL x).2 := by
    show (if (aL x).2 ≠ 0 then (aL x).2 else 0) = _
    by_cases e : (aL x).2 = 0
    · rw [if_neg (by simp [e]), e]
    · rw [if_pos e]
  by_cases e : (aL x).2 = 0
  · have hl := (aL_LOK (by omega) e).len.2
    have hJ : jL [x] = (aL x).1 := rfl
    rw [tL_ok (hE.trans e) (by rw [hJ]; omega)]
    exact e.symm
  · rw [tL_err (by rw [hE]; exact e)]
    exact hE
theorem enc_good : ∀ n : Fin 1120, good (n.val : Int) = true → (encR (fun j => [97, (n.val : Int)].getD j 0) 2).2 = 0 ∧ (encR (fun j => [97, (n.val : Int)].getD j 0) 2).1.length ≤ 59 := by decide +kernel
theorem run_aL {r : Int} (h : okV r) : (aL (97 :: e8 r)).2 = if good r = true then 0 else 1 := by
  have hh := e8_hi h
  obtain ⟨h1, h2, h3⟩ := id h
  have hne : e8 r ≠ [] := by
    by_cases k : r < 2048
    · exact e8_ne ⟨by omega, k⟩
    · obtain ⟨c, t, e, -⟩ := e8_big h (by omega)
      rw [e]; simp
  have hlow : (97 :: e8 r).map lowc = 97 :: e8 r := by
    rw [List.map_cons]
    congr 1
    conv => rhs; rw [← List.map_id (e8 r)]
    exact List.map_congr_left fun c hc => fix_low (by have := hh c hc; omega)
  have hnp : ¬ plaL (97 :: e8 r) = true := fun k => by
    obtain ⟨c, t, e⟩ := List.exists_cons_of_ne_nil hne
    unfold plaL at k
    have := of_decide_eq_true (List.all_eq_true.1 k c (by rw [e]; simp))
    have := hh c (by rw [e]; simp)
    omega
  rw [aL_aS, hlow, aS, if_neg hnp]
  by_cases k : r < 2048
  · have hok : ∀ x ∈ [97, r], okR x := fun x hx => by
      simp only [List.mem_cons, List.not_mem_nil, or_false] at hx
      rcases hx with rfl | rfl
      · exact ⟨by decide, by decide⟩
      · exact ⟨by omega, k⟩
    have ex : (97 :: e8 r : List UInt8) = [97, r].flatMap e8 := by
      rw [List.flatMap_cons, List.flatMap_cons, List.flatMap_nil, List.append_nil, e8_lt (r := 97) (by decide) (by decide)]; rfl
    rw [ex, validB_enc hok, if_neg (by decide), aN, rns_enc hok]
    by_cases hg : good r = true
    · rw [if_pos hg]
      have hr := good_rng hg
      obtain ⟨n, rfl⟩ : ∃ n : Nat, r = n := ⟨r.toNat, by omega⟩
      obtain ⟨e1, e2⟩ := enc_good ⟨n, by omega⟩ hg
      dsimp only at e1 e2
      rw [ascL_ok (o := (encR (fun j => [97, (n : Int)].getD j 0) 2).1) (fun x hx => ?_) (by show (97 : Int) ≠ 45; decide) (by show (n : Int) ≠ 45; omega) (Prod.ext rfl e1) e2]
      simp only [List.mem_cons, List.not_mem_nil, or_false] at hx
      rcases hx with rfl | rfl
      · decide +kernel
      · rw [badC_ge (by omega), hg]; rfl
    · rw [if_neg hg, ascL_bad (r := r) (by simp) (by rw [badC_ge (by omega)]; simpa using hg)]
  · have hg : ¬ good r = true := fun g => by have := good_rng g; omega
    rw [if_neg hg]
    by_cases hv : validB (mk8 (97 :: e8 r)) = false
    · rw [if_pos hv]
    · rw [if_neg hv, aN, rns_rnL, mk8_data]
      obtain ⟨c, t, e, hc⟩ := e8_big h (by omega)
      have hd : 2048 ≤ (Lib.decodeL (c :: t)).1 := by
        rw [Lib.decodeL_N]
        exact decN_big hc
      have hm : ((Lib.decodeL (c :: t)).1 : Int) ∈ rnL (97 :: e8 r).length (97 :: e8 r) := by
        rw [e, List.length_cons, rnL, if_neg (by simp), Lib.decodeL_ascii _ _ (by decide)]
        apply List.mem_cons_of_mem
        show _ ∈ rnL (c :: t).length (c :: t)
        rw [List.length_cons, rnL, if_neg (by simp)]
        exact List.mem_cons_self ..
      rw [ascL_bad hm]
      rw [badC_ge (by omega)]
      cases hgg : good ((Lib.decodeL (c :: t)).1 : Int)
      · rfl
      · have := good_rng hgg; omega
def wantR (r : Int) : Bool := decide (r ≥ 223) && decide (r ≤ 255) && r != 247 || decide (r ≥ 256) && decide (r ≤ 311) && bits BinOp.and IntKind.i32 r 1 == 1 || decide (r ≥ 945) && decide (r ≤ 969) || decide (r ≥ 1072) && decide (r ≤ 1119)
theorem want_small : ∀ n : Fin 1120, good (n.val : Int) = wantR (n.val : Int) := by decide +kernel
theorem want_good {r : Int} (h0 : 0 ≤ r) : good r = wantR r := by
  by_cases h : r < 1120
  · obtain ⟨n, rfl⟩ : ∃ n : Nat, r = n := ⟨r.toNat, by omega⟩
    exact want_small ⟨n, by omega⟩
  · have e1 : good r = false := by
      cases e : good r
      · rfl
      · have := good_rng e; omega
    have e2 : wantR r = false := by
      unfold wantR
      rw [decide_eq_false (show ¬ r ≤ 255 by omega), decide_eq_false (show ¬ r ≤ 311 by omega), decide_eq_false (show ¬ r ≤ 969 by omega), decide_eq_false (show ¬ r ≤ 1119 by omega)]
      simp
    rw [e1, e2]
theorem run_v (r : Int) : runV r := by
  unfold runV
  rw [show (decide (r ≥ (223 : Int)) && decide (r ≤ (255 : Int)) && r != (247 : Int) || decide (r ≥ (256 : Int)) && decide (r ≤ (311 : Int)) && bits BinOp.and IntKind.i32 r (1 : Int) == (1 : Int) || decide (r ≥ (945 : Int)) && decide (r ≤ (969 : Int)) || decide (r ≥ (1072 : Int)) && decide (r ≤ (1119 : Int))) = wantR r from rfl]
  refine ⟨fun h => absurd h (by decide), fun _ => ⟨fun _ => rfl, fun h => ?_⟩⟩
  have hU : okV r := by
    rw [Bool.or_eq_false_iff, Bool.or_eq_false_iff, Bool.and_eq_false_iff] at h
    obtain ⟨⟨h1, h2⟩, h3⟩ := h
    have h1 := of_decide_eq_false h1
    have h2 := of_decide_eq_false h2
    refine ⟨by omega, by omega, ?_⟩
    rcases h3 with h3 | h3
    · have := of_decide_eq_false h3; omega
    · have := of_decide_eq_false h3; omega
  have hs := enc8_size r
  refine ⟨by omega, ?_⟩
  have hd : ((⟨#[97]⟩ : ByteArray) ++ Utf8.encode r).data.toList = 97 :: e8 r := by
    rw [ByteArray.data_append, Array.toList_append]; rfl
  have hl : (e8 r).length ≤ 4 := e8_len
  have hA : (toA ((⟨#[97]⟩ : ByteArray) ++ Utf8.encode r)).2 = if good r = true then 0 else 1 := by
    rw [toA_tA, hd]
    show (tA (97 :: e8 r)).2 = _
    rw [tA_one (fun c hc => ?_) (by simp) (by rw [List.length_cons]; omega), run_aL hU]
    rcases List.mem_cons.1 hc with rfl | hc
    · decide
    · have := e8_hi hU c hc
      intro e
      rw [e] at this
      exact absurd this (by decide)
  rw [hA, want_good (by have := hU.1; omega)]
  cases wantR r <;> rfl
/-! NamePlain -/
theorem getD_mapf {f : UInt8 → UInt8} (h : f 0 = 0) (x : List UInt8) (i : Nat) : (x.map f).getD i 0 = f (x.getD i 0) := by
  rw [List.getD_eq_getElem?_getD, List.getElem?_map, List.getD_eq_getElem?_getD]
  cases x[i]? with
  | none => exact h.symm
  | some c => rfl
theorem lowc_45 (c : UInt8) : (lowc c == 45) = (c == 45) := by
  rw [Bool.eq_iff_iff, beq_iff_eq, beq_iff_eq, ← UInt8.toNat_inj, ← UInt8.toNat_inj, lowc_nat]
  have : (45 : UInt8).toNat = 45 := rfl
  by_cases h : 65 ≤ c.toNat ∧ c.toNat ≤ 90
  · rw [if_pos h]; omega
  · rw [if_neg h]
theorem rgtL_low (x : List UInt8) : rgtL (x.map lowc) = rgtL x := by
  unfold rgtL
  rw [List.length_map, getD_mapf (by decide), getD_mapf (by decide), lowc_45, lowc_45, List.all_map]
  congr 2
  funext c
  exact okc_low c
structure PlG (x : List UInt8) : Prop where
  len : x.length ≤ 100
  dot : ∀ c ∈ x, c ≠ 46
  pla : plaL (x.map lowc) = true
  pre : xnL.isPrefixOf (x.map lowc) = false
theorem plG.L {s : ByteArray} (h : plG s) : PlG s.data.toList := by
  obtain ⟨h1, h2, h3⟩ := h
  have hb : ∀ c ∈ s.data.toList, c.toNat < 128 ∧ c ≠ 46 := fun c hc => by
    obtain ⟨j, hj, e⟩ := List.getElem_of_mem hc
    have := h3 j (by rw [size_data]; exact hj)
    rw [sbyte_nat, List.getD_eq_getElem?_getD, List.getElem?_eq_getElem hj, Option.getD_some, e] at this
    refine ⟨by omega, fun k => ?_⟩
    rw [k] at this
    exact this.2 rfl
  refine ⟨by rw [← size_data]; exact h1, fun c hc => (hb c hc).2, ?_, ?_⟩
  · unfold plaL
    rw [List.all_eq_true]
    intro c hc
    obtain ⟨d, hd, rfl⟩ := List.mem_map.1 hc
    have := (hb d hd).1
    rw [decide_eq_true_eq, lowc_nat]
    split <;> omega
  · cases k : xnL.isPrefixOf (s.data.toList.map lowc)
    · rfl
    · exfalso
      obtain ⟨t', e⟩ := pre_ex k
      have hl : 4 ≤ s.size := by
        have := congrArg List.length e
        rw [List.length_map, List.length_append, ← size_data] at this
        have h4 : xnL.length = 4 := rfl
        omega
      apply h2 hl
      rw [← data_mk8 (lowT _), lowT_list, Lib.extract_eq]
      show mk8 (((s.data.toList.drop 0).take (4 - 0)).map lowc) = mk8 xnL
      rw [List.drop_zero, List.map_take, e, List.take_left']
      rfl
theorem PlG.aL {x : List UInt8} (h : PlG x) : aL x = if rgtL x = true then (x.map lowc, 0) else ([], 1) := by
  rw [aL_plain h.pla h.pre, rgtL_low]
theorem pln_tL {l : List (List UInt8)} (h : ∀ x ∈ l, PlG x) : ((∃ x ∈ l, rgtL x = false) → (tL l).2 = 1) ∧ ((∀ x ∈ l, rgtL x = true) → tL l = if (join46 l).length > 253 then ([], 2) else ((join46 l).map lowc, 0)) := by
  refine ⟨fun ⟨x, hx, hr⟩ => ?_, fun hr => ?_⟩
  · have he : eL l ≠ 0 := fun e => by
      have this : (aL x).2 = 0 := ee_zero.1 e x hx
      rw [(h x hx).aL, if_neg (by rw [hr]; simp)] at this
      exact absurd this (by decide)
    rw [tL_err he]
    obtain ⟨y, hy, e⟩ := ee_mem (F := fun x => (aL x).2) he
    show ee (fun x => (aL x).2) l = 1
    rw [e]
    have he2 : (aL y).2 ≠ 0 := fun k => he (show ee _ l = 0 by rw [e]; exact k)
    rw [(h y hy).aL] at he2 ⊢
    split
    · rename_i k
      rw [if_pos k] at he2
      exact absurd rfl he2
    · rfl
  · have hE : eL l = 0 := ee_zero.2 fun x hx => by rw [(h x hx).aL, if_pos (hr x hx)]
    have hJ : jL l = (join46 l).map lowc := by
      unfold jL
      rw [join46_map lowc (by decide)]
      congr 1
      exact List.map_congr_left fun x hx => by rw [(h x hx).aL, if_pos (hr x hx)]
    by_cases k : (join46 l).length > 253
    · rw [if_pos k, tL_long hE (by rw [hJ, List.length_map]; exact k)]
    · rw [if_neg k, tL_ok hE (by rw [hJ, List.length_map]; exact k), hJ]
theorem plOk_iff (q : Sq ByteArray) : ∀ i, plOk q i = true ↔ ∀ j, j < i → rgt (q.g j) = true
  | 0 => by simp [plOk]
  | i + 1 => by
    rw [plOk]
    cases h : plOk q i
    · rw [cond_false]
      have := (not_congr (plOk_iff q i)).1 (by rw [h]; simp)
      constructor
      · intro k; cases k
      · intro k; exact absurd (fun j hj => k j (by omega)) this
    · rw [cond_true]
      have := (plOk_iff q i).1 h
      constructor
      · intro k j hj
        by_cases e : j = i
        · rw [e]; exact k
        · exact this j (by omega)
      · intro k; exact k i (by omega)
theorem plSz_size (q : Sq ByteArray) : ∀ i, 0 < i → ((ljF q.g i).size : Int) = plSz q i
  | 0, h => by omega
  | i + 1, _ => by
    rw [ljF, plSz]
    by_cases h : 0 < i
    · have ih := plSz_size q i h
      rw [if_pos h, ByteArray.size_append, ByteArray.size_append, ← ih]
      have : (⟨#[46]⟩ : ByteArray).size = 1 := rfl
      omega
    · obtain rfl : i = 0 := by omega
      rw [if_neg h, ByteArray.size_append]
      show (((⟨#[]⟩ : ByteArray).size + (q.g 0).size : Nat) : Int) = -1 + ((q.g 0).size + 1)
      have : (⟨#[]⟩ : ByteArray).size = 0 := rfl
      omega
theorem plSz_rng (q : Sq ByteArray) : ∀ i, (∀ j, j < i → (q.g j).size ≤ 100) → -1 ≤ plSz q i ∧ plSz q i ≤ 101 * i - 1
  | 0, _ => by show -1 ≤ (-1 : Int) ∧ (-1 : Int) ≤ _; omega
  | i + 1, h => by
    have ih := plSz_rng q i fun j hj => h j (by omega)
    have := h i (by omega)
    rw [plSz]; omega
theorem pln_v (q : Sq ByteArray) (point : Bool) : plnV q point := by
  unfold plnV
  refine ⟨fun h => absurd h (by decide), fun _ => ⟨fun h => ?_, fun h => ?_, fun h => by omega, fun _ => rfl, fun h => ?_⟩⟩
  · rw [Bool.not_eq_true', Bool.or_eq_false_iff] at h
    have h2 := of_decide_eq_false h.2
    unfold in64; omega
  · rw [Bool.not_eq_true', Bool.or_eq_false_iff, beq_eq_false_iff_ne] at h
    omega
  rw [Bool.or_eq_false_iff, Bool.or_eq_false_iff, beq_eq_false_iff_ne] at h
  obtain ⟨⟨n0, n1⟩, n2⟩ := h
  have n1 := of_decide_eq_false n1
  have n2 := of_decide_eq_false n2
  have hn : 1 ≤ q.n ∧ q.n ≤ 10 := by omega
  have hlast : (q.g (q.n - 1)).data.toList ≠ [] := fun e => by
    apply n2
    rw [show ((q.n : Int) - 1).toNat = q.n - 1 by omega, ← data_mk8 (q.g (q.n - 1)), e]
    rfl
  clear n0 n1 n2
  refine ⟨⟨⟨0⟩, ⟨Nat.zero_le _, fun j hj => absurd hj (Nat.not_lt_zero _)⟩, rfl, rfl, rfl, rfl, rfl, rfl, rfl, rfl, trivial⟩, ?_⟩
  rintro ⟨i⟩ ⟨hi, hG⟩
  dsimp only at hi hG
  have hsz : ∀ j, j < i → (q.g j).size ≤ 100 := fun j hj => (hG j hj).1
  have hpr := plSz_rng q i hsz
  refine ⟨fun h => ?_, fun h => ?_⟩
  · have h : (i : Int) < q.n := of_decide_eq_true h
    have ei : ((i : Int)).toNat = i := by omega
    dsimp only
    rw [ei]
    have hcond : ∀ {p : Prop}, ((!decide (((q.g i).size : Int) > 100) && decide (((q.g i).size : Int) ≥ 4)) = true → (4 : Int) ≤ (q.g i).size ∧ (q.g i).size ≤ 100) := fun {p} k => by
      rw [Bool.and_eq_true, Bool.not_eq_true'] at k
      have k1 := of_decide_eq_false k.1
      have k2 := of_decide_eq_true k.2
      omega
    refine ⟨by omega, by omega, fun _ => by omega, fun _ => by omega, fun k => (hcond (p := True) k).1, fun k => ?_, fun _ => rfl, fun k => ?_⟩
    · have := hcond (p := True) k
      rw [ByteArray.size_extract]; omega
    · rw [Bool.or_eq_false_iff, Bool.and_eq_false_iff] at k
      obtain ⟨k1, k2⟩ := k
      have k1 := of_decide_eq_false k1
      have hp1 : (q.g i).size ≤ 100 := by omega
      have hp2 : 4 ≤ (q.g i).size → lowT ((q.g i).extract 0 4) ≠ xnT := fun h4 => by
        rcases k2 with k2 | k2
        · have := of_decide_eq_false k2; omega
        · exact of_decide_eq_false k2
      refine ⟨⟨i⟩, ⟨⟨0⟩, ⟨Nat.zero_le _, fun j hj => absurd hj (Nat.not_lt_zero _)⟩, rfl, rfl, rfl, rfl, rfl, rfl, rfl, rfl, rfl, rfl, rfl, trivial⟩, ?_⟩
      rintro ⟨m⟩ ⟨hm, hM⟩
      dsimp only at hm hM
      refine ⟨fun k => ?_, fun k => ?_⟩
      · have k : (m : Int) < (q.g i).size := of_decide_eq_true k
        refine ⟨by dsimp only; omega, by dsimp only; omega, fun _ => by dsimp only; omega, fun _ => by dsimp only; omega, fun _ => rfl, fun k2 => ⟨by unfold in64; dsimp only; omega, ⟨m + 1⟩, ⟨by show m + 1 ≤ (q.g i).size; omega, fun j hj => ?_⟩, by show (q.g i).size - (m + 1) < (q.g i).size - m; omega, rfl, rfl, rfl, rfl, rfl, rfl, rfl, rfl, rfl, rfl, rfl, trivial⟩⟩
        have hj : j < m + 1 := hj
        by_cases e : j = m
        · rw [Bool.or_eq_false_iff, beq_eq_false_iff_ne] at k2
          have k3 := of_decide_eq_false k2.1
          have k4 := k2.2
          subst e
          have k5 : ¬ sbyte (q.g i) (j : Nat) ≥ 128 := k3
          exact ⟨Int.lt_of_not_ge k5, k4⟩
        · exact hM j (Nat.lt_of_le_of_ne (Nat.le_of_lt_succ hj) e)
      · have k : ¬ (m : Int) < (q.g i).size := of_decide_eq_false k
        obtain rfl : m = (q.g i).size := by omega
        refine ⟨fun _ => by dsimp only; omega, by unfold in64; dsimp only; omega, by unfold in64; dsimp only; omega, by unfold in64; dsimp only; omega, ⟨i + 1⟩, ⟨by show i + 1 ≤ q.n; omega, fun j hj => ?_⟩, by show q.n - (i + 1) < q.n - i; omega, rfl, rfl, rfl, ?_, rfl, rfl, rfl, rfl, trivial⟩
        · have hj : j < i + 1 := hj
          by_cases e : j = i
          · subst e; exact ⟨hp1, hp2, hM⟩
          · exact hG j (by omega)
        · show (plOk q i && rgt (q.g i)) = plOk q (i + 1)
          rw [plOk]
          cases plOk q i <;> rfl
  · have h : ¬ (i : Int) < q.n := of_decide_eq_false h
    obtain rfl : i = q.n := by omega
    have hS := plSz_size q q.n (by omega)
    have hjd := ljF_join q.g q.n
    generalize hl : (List.range q.n).map (fun j => (q.g j).data.toList) = l at hjd
    have hmem : ∀ x ∈ l, ∃ j, j < q.n ∧ x = (q.g j).data.toList := fun x hx => by
      rw [← hl] at hx
      obtain ⟨j, hj, rfl⟩ := List.mem_map.1 hx
      exact ⟨j, List.mem_range.1 hj, rfl⟩
    have hPl : ∀ x ∈ l, PlG x := fun x hx => by
      obtain ⟨j, hj, rfl⟩ := hmem x hx
      exact (hG j hj).L
    have hlne : l ≠ [] := fun e => by
      have := congrArg List.length (hl.trans e)
      simp at this; omega
    have hgl : l.getLast? = some (q.g (q.n - 1)).data.toList := by
      rw [← hl, List.getLast?_map, List.getLast?_range, if_neg (by omega)]; rfl
    have hL1 : LL (join46 l) = l := LL_join hlne (fun x hx => (hPl x hx).dot) (by rw [hgl]; simp [hlast])
    have hL2 : LL (join46 l ++ [46]) = l := by
      unfold LL
      rw [trim46_dot, split_join hlne fun x hx => (hPl x hx).dot]
    have hjl : (join46 l).length = (ljF q.g q.n).size := by rw [← hjd, size_data]
    have hjl2 : ((join46 l).length : Int) = plSz q q.n := by rw [hjl]; exact hS
    have ok1 : plOk q q.n = true → ∀ x ∈ l, rgtL x = true := fun k x hx => by
      obtain ⟨j, hj, rfl⟩ := hmem x hx
      rw [← rgt_list]
      exact (plOk_iff q q.n).1 k j hj
    have ok2 : plOk q q.n = false → ∃ x ∈ l, rgtL x = false := fun k => by
      by_cases e : ∃ x ∈ l, rgtL x = false
      · exact e
      · have : plOk q q.n = true := (plOk_iff q q.n).2 fun j hj => by
          rw [rgt_list]
          cases k2 : rgtL (q.g j).data.toList
          · exact absurd ⟨_, by rw [← hl]; exact List.mem_map.2 ⟨j, List.mem_range.2 hj, rfl⟩, k2⟩ e
          · rfl
        rw [k] at this; cases this
    obtain ⟨f1, f2⟩ := pln_tL hPl
    have fin : ∀ s : ByteArray, tA s.data.toList = tL l → ((!plOk q q.n) = true → ((toA s).2 == 1) = true) ∧ ((!plOk q q.n) = false → (decide (plSz q q.n > 253) = true → ((toA s).2 == 2) = true) ∧ (decide (plSz q q.n > 253) = false → toA s = (lowT (ljF q.g q.n), 0))) := by
      intro s hs
      rw [toA_tA, hs]
      dsimp only
      refine ⟨fun k => ?_, fun k => ⟨fun k2 => ?_, fun k2 => ?_⟩⟩
      · rw [f1 (ok2 (by simpa using k))]; rfl
      · have k2 := of_decide_eq_true k2
        rw [f2 (ok1 (by simpa using k)), if_pos (by omega)]; rfl
      · have k2 := of_decide_eq_false k2
        rw [f2 (ok1 (by simpa using k)), if_neg (by omega), ← hjd, ← lowT_list, data_mk8]
    have hg100 : ∀ j, j < q.n → (q.g j).size ≤ 1000000 := fun j hj => by have := hsz j hj; omega
    refine ⟨fun _ _ => rfl, by omega, hg100, fun _ => ⟨by omega, ?_⟩, fun _ => ?_⟩
    · obtain ⟨g1, g2⟩ := fin (ljF q.g q.n ++ ⟨#[46]⟩) (by
        have : (ljF q.g q.n ++ (⟨#[46]⟩ : ByteArray)).data.toList = join46 l ++ [46] := by
          rw [ByteArray.data_append, Array.toList_append, hjd]
        rw [this, tA_tL (by rw [List.length_append]; show _ + 1 ≤ _; omega), hL2])
      refine ⟨g1, fun k => ⟨(g2 k).1, fun k2 => ⟨fun _ _ _ => rfl, fun _ => by omega, fun _ => hg100, fun _ => by omega, ?_⟩⟩⟩
      rw [(g2 k).2 k2]
      simp
    · obtain ⟨g1, g2⟩ := fin (ljF q.g q.n) (by rw [hjd, tA_tL (by omega), hL1])
      refine ⟨g1, fun k => ⟨(g2 k).1, fun k2 => ⟨fun _ _ _ => rfl, fun _ => by omega, fun _ => hg100, fun _ => by omega, ?_⟩⟩⟩
      rw [(g2 k).2 k2]
      simp
end Go.Proofs.YtedmgnhbfpjceaaDoorAv
set_option linter.unusedVariables false
set_option linter.unusedSimpArgs false
set_option maxRecDepth 100000
namespace Go.Proofs.YtedmgnhbfpjceaaDoorAv
open Go Go.RowKit
def i32AV (z : Int) : AV := .p (.int .i32 z)
theorem strs_rv (ρ : Rho) (l : List ByteArray) : RV ρ (sqX 1 (fun s => [XT s]) (Sq.ofList l ⟨#[]⟩)) (strsAV l) := by
  simp only [sqX, RV, toAV, strsAV, Sq.ofList]
  congr 1
  apply List.ext_getElem?
  intro i
  rw [List.getElem?_map]
  rcases Nat.lt_or_ge i l.length with h | h
  · have := vecOf_get (n := l.length) (sz := 1) (g := fun i => toAVL [XT (l.getD i ⟨#[]⟩)]) (i := i) (o := 0) h (by omega)
    simp only [Nat.mul_one, Nat.add_zero] at this
    rw [this, List.getElem?_eq_getElem h]
    simp [toAVL, toAV, strAV, List.getD_eq_getElem?_getD, List.getElem?_eq_getElem h]
  · rw [List.getElem?_eq_none h, List.getElem?_eq_none (by rw [vecOf_length]; omega)]
    rfl
theorem run_ok : CTok Tryd.prog 5 (C1 (dIK .i32) (fun _ => []) fun _ => XB true) := C1_ok cxL_ok Tryd.func5 rfl (by decide) (dIK_eq .i32).ok (by kernel_rfl) (fun _ => rfl) fun r _ => exv (runV_eq r) (run_v r)
theorem pln_ok : CTok Tryd.prog 4 (C2 dStrs dBool (fun _ _ => []) fun _ _ => XB true) := C2_ok cxL_ok Tryd.func4 rfl (by decide) dSl_ok dBool_eq.ok (by kernel_rfl) (fun _ _ => rfl) fun q b _ => exv (plnV_eq q b) (pln_v q b)
theorem nameRunes_J (L : GH) (a : Int) (ha : (Lit.int .i32 a).wf = true) : JF Tryd.prog 5 [i32AV a] L (fun v L' => v = boolAV true ∧ L' = L) := by
  refine law_J run_ok (xs := [X32 a]) (cs := []) rfl (fun p hp => by cases hp) ?_ L
  simp only [RVL]
  exact ⟨by simp [RV, i32AV], trivial⟩
theorem namePlain_J (L : GH) (a : List ByteArray) (b : Bool) (hn : a.length ≤ 8796093022208) (hw : ∀ s ∈ a, s.size ≤ 140737488351232) : JF Tryd.prog 4 [strsAV a, boolAV b] L (fun v L' => v = boolAV true ∧ L' = L) := by
  refine law_J pln_ok (xs := [sqX 1 (fun s => [XT s]) (Sq.ofList a ⟨#[]⟩), XB b]) (cs := _) rfl ?_ ?_ L
  · intro p hp
    simp only [List.mem_append, List.mem_cons, List.not_mem_nil, or_false, false_or] at hp
    try rcases hp with rfl <;> exact fun _ _ => rfl
  · simp only [RVL]
    exact ⟨strs_rv _ a, by simp [RV, boolAV], trivial⟩
end Go.Proofs.YtedmgnhbfpjceaaDoorAv
