/-
  SYMBOLIC RUNS over the model (own framework, part 16): what a symbolic state says of slots and blocks.
-/
import Derived.Test.YtljgkjkdmoejfaaAvX
set_option linter.unusedVariables false
set_option linter.unusedSimpArgs false
namespace Go.Proofs.YtljgkjkdmoejfaaAv
open Go Go.RowKit

def vecOf (n sz : Nat) (g : Nat → List AV) : List AV := (List.range (n * sz)).map fun c => (g (c / sz)).getD (c % sz) .top
mutual
def toAV : XV → AV
  | .v a => a
  | .fz n sz f => .fz n (vecOf n sz fun i => toAVL (f i))
  | .agg cs => .agg (toAVL cs)
  | .tup cs => .tup (toAVL cs)
  | _ => .top
def toAVL : List XV → List AV
  | [] => []
  | x :: l => toAV x :: toAVL l
end
theorem toAVL_map : ∀ l : List XV, toAVL l = l.map toAV
  | [] => rfl
  | x :: l => by simp only [toAVL, List.map_cons, toAVL_map l]

abbrev Rho := Nat → Option (Option Nat)

mutual
def RV (ρ : Rho) : XV → AV → Prop
  | .v a, b => b = a
  | .sl id sz off n, b => (∃ g, ρ id = some (some g) ∧ b = .sl g sz (off * sz) n) ∨ (ρ id = some none ∧ n = 0 ∧ off = 0 ∧ b = .p (.slice none 0 0))
  | .ptr id sz i o, b => ∃ g, ρ id = some (some g) ∧ b = .ptr g (i * sz + o)
  | .fz n sz f, b => b = toAV (.fz n sz f)
  | .fzc n sz f, b => b = .fzc n (vecOf n sz fun i => toAVL (f i))
  | .fp cs, b => ∃ ds, b = .fp (toAVL cs ++ ds)
  | .fsel cs j, b => j < cs.length → ∃ ds, b = .fp (toAVL (cs.drop j) ++ ds)
  | .agg cs, b => ∃ bs, b = .agg bs ∧ RVL ρ cs bs
  | .tup cs, b => ∃ bs, b = .tup bs ∧ RVL ρ cs bs
  | .gd c _ x, b => (c = true → RV ρ x b) ∧ (c = false → b = .p undef)
  | .top, _ => True
def RVL (ρ : Rho) : List XV → List AV → Prop
  | [], [] => True
  | c :: cs, b :: bs => RV ρ c b ∧ RVL ρ cs bs
  | [], _ :: _ => False
  | _ :: _, [] => False
end

theorem xget_eq : ∀ (l : List XV) (i : Nat), xget l i = l.getD i .top
  | [], _ => by simp [xget]
  | x :: l, 0 => by simp [xget]
  | x :: l, i + 1 => by simp [xget, xget_eq l i]
theorem xtake_eq : ∀ (n : Nat) (l : List XV), xtake n l = l.take n
  | 0, l => by simp [xtake]
  | n + 1, [] => by simp [xtake]
  | n + 1, x :: l => by simp [xtake, xtake_eq n l]
theorem xdrop_eq : ∀ (n : Nat) (l : List XV), xdrop n l = l.drop n
  | 0, l => by simp [xdrop]
  | n + 1, [] => by simp [xdrop]
  | n + 1, x :: l => by simp [xdrop, xdrop_eq n l]
theorem xapp_eq : ∀ (k l : List XV), xapp k l = k ++ l
  | [], l => by simp [xapp]
  | x :: k, l => by simp [xapp, xapp_eq k l]
theorem xlen_eq : ∀ l : List XV, xlen l = l.length
  | [] => rfl
  | x :: l => by simp [xlen, xlen_eq l]
theorem xel_eq (f : List XV) : ∀ (n k : Nat), xel f n k = (List.range n).map fun j => f.getD (k + j) .top
  | 0, k => by simp [xel]
  | n + 1, k => by
    rw [xel, xel_eq f n (k + 1), List.range_succ_eq_map, List.map_cons, List.map_map, xget_eq]
    simp only [Nat.add_zero, List.cons.injEq, true_and]
    apply List.map_congr_left
    intro j _
    show f.getD (k + 1 + j) XV.top = f.getD (k + (j + 1)) XV.top
    congr 1
    omega

theorem RVL.length {ρ : Rho} : ∀ {cs : List XV} {bs : List AV}, RVL ρ cs bs → cs.length = bs.length
  | [], [], _ => rfl
  | _ :: cs, _ :: bs, h => by simp only [RVL] at h; simp [RVL.length h.2]
  | [], _ :: _, h => by simp [RVL] at h
  | _ :: _, [], h => by simp [RVL] at h
theorem RVL.get {ρ : Rho} : ∀ {cs : List XV} {bs : List AV}, RVL ρ cs bs → ∀ (i : Nat), i < cs.length → ∃ b, bs[i]? = some b ∧ RV ρ (cs.getD i .top) b
  | [], [], _, i, h => by simp at h
  | c :: cs, b :: bs, h, 0, _ => by simp only [RVL] at h; exact ⟨b, rfl, by simpa using h.1⟩
  | c :: cs, b :: bs, h, i + 1, hi => by
    simp only [RVL] at h
    obtain ⟨x, hx, hr⟩ := RVL.get h.2 i (by simpa using hi)
    exact ⟨x, by simpa using hx, by simpa using hr⟩
  | [], _ :: _, h, _, _ => by simp [RVL] at h
  | _ :: _, [], h, _, _ => by simp [RVL] at h
theorem RVL.take {ρ : Rho} : ∀ {cs : List XV} {bs : List AV} (n : Nat), RVL ρ cs bs → RVL ρ (cs.take n) (bs.take n)
  | _, _, 0, _ => by simp [RVL]
  | [], [], n + 1, _ => by simp [RVL]
  | c :: cs, b :: bs, n + 1, h => by simp only [RVL] at h; simp only [List.take_succ_cons, RVL]; exact ⟨h.1, RVL.take n h.2⟩
  | [], _ :: _, _ + 1, h => by simp [RVL] at h
  | _ :: _, [], _ + 1, h => by simp [RVL] at h
theorem RVL.drop {ρ : Rho} : ∀ {cs : List XV} {bs : List AV} (n : Nat), RVL ρ cs bs → RVL ρ (cs.drop n) (bs.drop n)
  | cs, bs, 0, h => by simpa using h
  | [], [], n + 1, _ => by simp [RVL]
  | c :: cs, b :: bs, n + 1, h => by simp only [RVL] at h; simp only [List.drop_succ_cons]; exact RVL.drop n h.2
  | [], _ :: _, _ + 1, h => by simp [RVL] at h
  | _ :: _, [], _ + 1, h => by simp [RVL] at h
theorem RVL.append {ρ : Rho} : ∀ {cs ds : List XV} {bs es : List AV}, RVL ρ cs bs → RVL ρ ds es → RVL ρ (cs ++ ds) (bs ++ es)
  | [], ds, [], es, _, h => by simpa using h
  | c :: cs, ds, b :: bs, es, h, k => by simp only [RVL] at h; simp only [List.cons_append, RVL]; exact ⟨h.1, RVL.append h.2 k⟩
  | [], _, _ :: _, _, h, _ => by simp [RVL] at h
  | _ :: _, _, [], _, h, _ => by simp [RVL] at h

mutual
theorem RV.mono {ρ ρ' : Rho} (h : ∀ i o, ρ i = some o → ρ' i = some o) : ∀ (x : XV) (b : AV), RV ρ x b → RV ρ' x b
  | .v a, b, k => by simpa [RV] using k
  | .sl id sz off n, b, k => by
    simp only [RV] at k ⊢
    rcases k with ⟨g, hg, hb⟩ | ⟨hg, hb⟩
    · exact .inl ⟨g, h _ _ hg, hb⟩
    · exact .inr ⟨h _ _ hg, hb⟩
  | .ptr id sz i o, b, k => by
    simp only [RV] at k ⊢
    obtain ⟨g, hg, hb⟩ := k
    exact ⟨g, h _ _ hg, hb⟩
  | .fz n sz f, b, k => by simpa [RV] using k
  | .fzc n sz f, b, k => by simpa [RV] using k
  | .fp cs, b, k => by simpa [RV] using k
  | .fsel cs j, b, k => by simpa [RV] using k
  | .agg cs, b, k => by
    simp only [RV] at k ⊢
    obtain ⟨bs, hb, hr⟩ := k
    exact ⟨bs, hb, RVL.mono h cs bs hr⟩
  | .tup cs, b, k => by
    simp only [RV] at k ⊢
    obtain ⟨bs, hb, hr⟩ := k
    exact ⟨bs, hb, RVL.mono h cs bs hr⟩
  | .gd c key x, b, k => by
    simp only [RV] at k ⊢
    exact ⟨fun hc => RV.mono h x b (k.1 hc), k.2⟩
  | .top, b, _ => by simp [RV]
theorem RVL.mono {ρ ρ' : Rho} (h : ∀ i o, ρ i = some o → ρ' i = some o) : ∀ (cs : List XV) (bs : List AV), RVL ρ cs bs → RVL ρ' cs bs
  | [], [], _ => by simp [RVL]
  | c :: cs, b :: bs, k => by simp only [RVL] at k ⊢; exact ⟨RV.mono h c b k.1, RVL.mono h cs bs k.2⟩
  | [], _ :: _, k => by simp [RVL] at k
  | _ :: _, [], k => by simp [RVL] at k
end

theorem RV.cl (ρ : Rho) (x : XV) : RV ρ x.cl (toAV x) := by cases x <;> simp [XV.cl, RV, toAV]
theorem RV.cl_top (ρ : Rho) (l : List XV) (o : Nat) : RV ρ (l.getD o .top).cl ((toAVL l).getD o .top) := by
  rw [toAVL_map]
  by_cases h : o < l.length
  · have e1 : l.getD o .top = l[o] := by simp [List.getD_eq_getElem?_getD, List.getElem?_eq_getElem h]
    have e2 : (l.map toAV).getD o .top = toAV l[o] := by simp [List.getD_eq_getElem?_getD, List.getElem?_eq_getElem h]
    rw [e1, e2]; exact RV.cl ρ _
  · have e1 : l.getD o .top = .top := by simp [List.getD_eq_getElem?_getD, List.getElem?_eq_none (Nat.le_of_not_lt h)]
    rw [e1]; simp [XV.cl, RV]
theorem RV.pure1 {ρ : Rho} {x : XV} {b : AV} (h : x.pure1 = true) (k : RV ρ x b) : b = toAV x := by
  cases x <;> simp [XV.pure1] at h <;> simpa [RV, toAV] using k
theorem RVL.pure {ρ : Rho} : ∀ {cs : List XV} {bs : List AV}, xpure cs = true → RVL ρ cs bs → bs = toAVL cs
  | [], [], _, _ => rfl
  | c :: cs, b :: bs, h, k => by
    simp only [xpure, Bool.and_eq_true] at h
    simp only [RVL] at k
    rw [toAVL, ← RV.pure1 h.1 k.1, ← RVL.pure h.2 k.2]
  | [], _ :: _, _, k => by simp [RVL] at k
  | _ :: _, [], _, k => by simp [RVL] at k
theorem RV.one1 {ρ : Rho} {x : XV} {b : AV} (h : x.one1 = true) (k : RV ρ x b) : b.one = true := by
  cases x with
  | v a => simp only [RV] at k; rw [k]; simpa [XV.one1] using h
  | sl id sz off n =>
    simp only [RV] at k
    rcases k with ⟨g, _, rfl⟩ | ⟨_, _, _, rfl⟩
    · rfl
    · rfl
  | ptr => simp only [RV] at k; obtain ⟨g, _, rfl⟩ := k; rfl
  | fz => simp only [RV] at k; rw [k]; rfl
  | fp => simp only [RV] at k; obtain ⟨ds, rfl⟩ := k; rfl
  | _ => simp [XV.one1] at h
theorem RVL.ones {ρ : Rho} : ∀ {cs : List XV} {bs : List AV}, xones cs = true → RVL ρ cs bs → ones bs = true
  | [], [], _, _ => rfl
  | c :: cs, b :: bs, h, k => by
    simp only [xones, Bool.and_eq_true] at h
    simp only [RVL] at k
    simp only [YtljgkjkdmoejfaaAv.ones, List.all_cons, Bool.and_eq_true]
    exact ⟨RV.one1 h.1 k.1, RVL.ones h.2 k.2⟩
  | [], _ :: _, _, k => by simp [RVL] at k
  | _ :: _, [], _, k => by simp [RVL] at k
theorem RV.cells {ρ : Rho} {x : XV} {b : AV} (h : xones x.cells = true) (k : RV ρ x b) : RVL ρ x.cells b.cells ∧ YtljgkjkdmoejfaaAv.ones b.cells = true := by
  have main : RVL ρ x.cells b.cells := by
    cases x with
    | agg cs =>
      simp only [RV] at k
      obtain ⟨bs, rfl, hr⟩ := k
      exact hr
    | _ =>
      all_goals
        simp only [XV.cells, xones, Bool.and_eq_true] at h
        have h1 := RV.one1 h.1 k
        have : b.cells = [b] := by cases b <;> first | rfl | simp [AV.one] at h1
        rw [this]
        simp only [XV.cells, RVL]
        exact ⟨k, trivial⟩
  exact ⟨main, RVL.ones h main⟩

/-! Elements of some cells each -/
theorem vecOf_length (n sz : Nat) (g : Nat → List AV) : (vecOf n sz g).length = n * sz := by simp [vecOf]
theorem vecOf_get {n sz : Nat} {g : Nat → List AV} {i o : Nat} (hi : i < n) (ho : o < sz) : (vecOf n sz g)[i * sz + o]? = some ((g i).getD o .top) := by
  have hlt : i * sz + o < n * sz := by
    have : (i + 1) * sz ≤ n * sz := Nat.mul_le_mul_right _ hi
    rw [Nat.add_mul] at this
    omega
  unfold vecOf
  rw [List.getElem?_map, List.getElem?_range hlt]
  simp only [Option.map_some]
  congr 2
  · congr 1
    rw [Nat.mul_comm, Nat.mul_add_div (by omega), Nat.div_eq_of_lt ho, Nat.add_zero]
  · rw [Nat.mul_comm, Nat.mul_add_mod, Nat.mod_eq_of_lt ho]
theorem vecOf_get' {n sz : Nat} {g : Nat → List AV} {c : Nat} (hc : c < n * sz) : (vecOf n sz g)[c]? = some ((g (c / sz)).getD (c % sz) .top) := by
  unfold vecOf
  rw [List.getElem?_map, List.getElem?_range hc]
  rfl
theorem vecOf_seg {n sz : Nat} {g : Nat → List AV} {i o m : Nat} (hi : i < n) (ho : o + m ≤ sz) : ((vecOf n sz g).drop (i * sz + o)).take m = (List.range m).map fun k => (g i).getD (o + k) .top := by
  apply List.ext_getElem?
  intro k
  rw [List.getElem?_take]
  split
  · rename_i hk
    rw [List.getElem?_drop, show i * sz + o + k = i * sz + (o + k) by omega, vecOf_get hi (by omega), List.getElem?_map, List.getElem?_range hk]
    rfl
  · rename_i hk
    rw [List.getElem?_eq_none (by simp; omega)]
theorem vecOf_congr {n sz : Nat} {g g' : Nat → List AV} (h : ∀ j, j < n → g j = g' j) : vecOf n sz g = vecOf n sz g' := by
  unfold vecOf
  apply List.map_congr_left
  intro c hc
  have hc' := List.mem_range.1 hc
  have hs : 0 < sz := by
    rcases Nat.eq_zero_or_pos sz with h0 | h0
    · rw [h0] at hc'; simp at hc'
    · exact h0
  rw [h (c / sz) ((Nat.div_lt_iff_lt_mul hs).2 hc')]
theorem vecOf_app {n m sz : Nat} {f g : Nat → List AV} : vecOf n sz f ++ vecOf m sz g = vecOf (n + m) sz fun j => bif Nat.blt j n then f j else g (j - n) := by
  apply List.ext_getElem?
  intro c
  have hbl : ∀ a b : Nat, Nat.blt a b = decide (a < b) := fun a b => by
    rw [Bool.eq_iff_iff, Nat.blt_eq, decide_eq_true_eq]
  rcases Nat.lt_or_ge c (n * sz) with h | h
  · have hs : 0 < sz := by rcases Nat.eq_zero_or_pos sz with h0 | h0; (rw [h0] at h; simp at h); exact h0
    have hd : c / sz < n := (Nat.div_lt_iff_lt_mul hs).2 h
    rw [List.getElem?_append_left (by rw [vecOf_length]; exact h), vecOf_get' h, vecOf_get' (by rw [Nat.add_mul]; omega), hbl, decide_eq_true hd]
    rfl
  · rw [List.getElem?_append_right (by rw [vecOf_length]; exact h), vecOf_length]
    rcases Nat.lt_or_ge c ((n + m) * sz) with h2 | h2
    · rw [Nat.add_mul] at h2
      have hs : 0 < sz := by rcases Nat.eq_zero_or_pos sz with h0 | h0; (rw [h0] at h2; simp at h2); exact h0
      have h3 : c - n * sz < m * sz := by omega
      have e1 : c = (c - n * sz) + n * sz := by omega
      have e2 : c / sz = (c - n * sz) / sz + n := by
        conv => lhs; rw [e1]
        rw [Nat.add_mul_div_right _ _ hs]
      have e3 : c % sz = (c - n * sz) % sz := by
        conv => lhs; rw [e1]
        rw [Nat.add_mul_mod_self_right]
      have hd : ¬ c / sz < n := by rw [e2]; exact Nat.not_lt.2 (Nat.le_add_left _ _)
      rw [vecOf_get' h3, vecOf_get' (by rw [Nat.add_mul]; omega), hbl, decide_eq_false hd, e3, e2]
      simp
    · rw [Nat.add_mul] at h2
      rw [List.getElem?_eq_none (by rw [vecOf_length]; omega), List.getElem?_eq_none (by rw [vecOf_length, Nat.add_mul]; omega)]
/-- Cells of one element written. -/
theorem vecOf_set {n sz : Nat} {g : Nat → List AV} {cs : List AV} {i o : Nat} (hi : i < n) (ho : o + cs.length ≤ sz) :
    (vecOf n sz g).take (i * sz + o) ++ cs ++ (vecOf n sz g).drop (i * sz + o + cs.length) =
      vecOf n sz fun j => bif Nat.beq j i then ((List.range sz).map fun k => (g i).getD k .top).take o ++ cs ++ ((List.range sz).map fun k => (g i).getD k .top).drop (o + cs.length) else g j := by
  have hb : ∀ a b : Nat, Nat.beq a b = decide (a = b) := fun a b => by
    rw [Bool.eq_iff_iff, Nat.beq_eq, decide_eq_true_eq]
  have hsz : (i + 1) * sz ≤ n * sz := Nat.mul_le_mul_right _ hi
  rw [Nat.add_mul] at hsz
  apply List.ext_getElem?
  intro c
  rcases Nat.lt_or_ge c (n * sz) with hc | hc
  · have hs : 0 < sz := by rcases Nat.eq_zero_or_pos sz with h0 | h0; (rw [h0] at hc; simp at hc); exact h0
    rw [vecOf_get' hc, hb]
    have hdm := Nat.div_add_mod c sz
    have hm := Nat.mod_lt c hs
    have l1 : ((vecOf n sz g).take (i * sz + o)).length = i * sz + o := by rw [List.length_take, vecOf_length]; omega
    have l2 : (((List.range sz).map fun k => (g i).getD k AV.top).take o).length = o := by simp; omega
    by_cases he : c / sz = i
    · rw [decide_eq_true he, cond_true]
      have hce : c = i * sz + c % sz := by rw [← he, Nat.mul_comm]; omega
      rcases Nat.lt_or_ge (c % sz) o with h1 | h1
      · rw [List.append_assoc, List.getElem?_append_left (by rw [l1]; omega), List.getElem?_take, if_pos (by omega), vecOf_get' hc, he]
        congr 1
        symm
        rw [List.append_assoc, List.getD_eq_getElem?_getD, List.getElem?_append_left (by rw [l2]; exact h1), List.getElem?_take, if_pos h1, List.getElem?_map, List.getElem?_range hm]
        rfl
      · rcases Nat.lt_or_ge (c % sz) (o + cs.length) with h2 | h2
        · rw [List.append_assoc, List.getElem?_append_right (by rw [l1]; omega), l1, List.getElem?_append_left (by omega)]
          rw [List.append_assoc, List.getD_eq_getElem?_getD, List.getElem?_append_right (by rw [l2]; exact h1), l2, List.getElem?_append_left (by omega)]
          have hq : c - (i * sz + o) = c % sz - o := by omega
          rw [hq, List.getElem?_eq_getElem (by omega)]
          rfl
        · rw [List.getElem?_append_right (by rw [List.length_append, l1]; omega), List.length_append, l1, List.getElem?_drop]
          rw [show i * sz + o + cs.length + (c - (i * sz + o + cs.length)) = c by omega, vecOf_get' hc, he]
          congr 1
          symm
          rw [List.getD_eq_getElem?_getD, List.getElem?_append_right (by rw [List.length_append, l2]; exact h2), List.length_append, l2, List.getElem?_drop]
          rw [show o + cs.length + (c % sz - (o + cs.length)) = c % sz by omega, List.getElem?_map, List.getElem?_range hm]
          rfl
    · rw [decide_eq_false he, cond_false]
      rcases Nat.lt_or_gt_of_ne he with h1 | h1
      · have : c < i * sz := (Nat.div_lt_iff_lt_mul hs).1 h1
        rw [List.append_assoc, List.getElem?_append_left (by rw [l1]; omega), List.getElem?_take, if_pos (by omega), vecOf_get' hc]
      · have h4 : (i + 1) * sz ≤ c := (Nat.le_div_iff_mul_le hs).1 h1
        rw [Nat.add_mul] at h4
        rw [List.getElem?_append_right (by rw [List.length_append, l1]; omega), List.length_append, l1, List.getElem?_drop]
        rw [show i * sz + o + cs.length + (c - (i * sz + o + cs.length)) = c by omega, vecOf_get' hc]
  · rw [List.getElem?_eq_none (by simp [vecOf_length]; omega), List.getElem?_eq_none (by rw [vecOf_length]; exact hc)]

/-! States -/
def RRow (ρ : Rho) : XRow → Row → Prop
  | .one e ap cs, r => r.e = e ∧ r.ap = ap ∧ RVL ρ cs r.cs
  | .vec e ap n sz f, r => r = ⟨e, ap, vecOf n sz fun i => toAVL (f i)⟩
  | .vecU e ap n sz i cs f, r => r = ⟨e, ap, vecOf n sz fun j => toAVL (bif Nat.beq j i then cs else f j)⟩
def RR (ρ : Rho) (L : GH) (id : Nat) (r : XRow) : Prop :=
  (∃ g row, ρ id = some (some g) ∧ L g = some row ∧ RRow ρ r row) ∨ (ρ id = some none ∧ ∃ e sz f, r = .vec e true 0 sz f)
theorem RRow.mono {ρ ρ' : Rho} (h : ∀ i o, ρ i = some o → ρ' i = some o) {r : XRow} {row : Row} (k : RRow ρ r row) : RRow ρ' r row := by
  cases r with
  | one e ap cs => simp only [RRow] at k ⊢; exact ⟨k.1, k.2.1, RVL.mono h _ _ k.2.2⟩
  | vec e ap n sz f => simpa [RRow] using k
  | vecU e ap n sz i cs f => simpa [RRow] using k

/-- Blocks that are another's; the block that a pinned number stands for. -/
structure Fr where
  F : GH
  g : Nat
  tg : List AV := []
/-- A symbolic state, against slots and blocks. -/
structure Rel (F : Fr) (ρ : Rho) (S : XS) (t : TM) (L : GH) : Prop where
  sl : ∀ i, RV ρ (look S.s i) (t i)
  rw : ∀ id r, findR S.h id = some r → RR ρ L id r
  inj : ∀ id id' g, (findR S.h id).isSome = true → (findR S.h id').isSome = true → ρ id = some (some g) → ρ id' = some (some g) → id = id'
  nx : ∀ id, S.nx ≤ id → ρ id = none
  fr : ∀ b r, F.F b = some r → L b = some r ∧ ∀ id, (findR S.h id).isSome = true → ρ id ≠ some (some b)
  pin : S.pn = true → ρ 0 = some (some F.g) ∧ 0 < S.nx ∧ ∃ e ap cs, findR S.h 0 = some (.one e ap cs)
  gh : RVL ρ S.gs F.tg

theorem beqN (a b : Nat) : Nat.beq a b = decide (a = b) := by rw [Bool.eq_iff_iff, Nat.beq_eq, decide_eq_true_eq]
theorem bltN (a b : Nat) : Nat.blt a b = decide (a < b) := by rw [Bool.eq_iff_iff, Nat.blt_eq, decide_eq_true_eq]
theorem bleN (a b : Nat) : Nat.ble a b = decide (a ≤ b) := by rw [Bool.eq_iff_iff, Nat.ble_eq, decide_eq_true_eq]
theorem look_put (s : List (Nat × XV)) (d : Nat) (v : XV) (i : Nat) : look ((d, v) :: s) i = if i = d then v else look s i := by
  simp only [look, beqN]
  by_cases h : i = d <;> simp [h]
theorem findR_put (s : List (Nat × XRow)) (d : Nat) (v : XRow) (i : Nat) : findR ((d, v) :: s) i = if i = d then some v else findR s i := by
  simp only [findR, beqN]
  by_cases h : i = d <;> simp [h]
theorem findR_del (d : Nat) : ∀ (s : List (Nat × XRow)) (i : Nat), findR (delR s d) i = if i = d then none else findR s i
  | [], i => by simp [delR, findR]
  | (k, r) :: s, i => by
    simp only [delR, beqN]
    by_cases h : d = k
    · subst h
      simp only [decide_true, cond_true, findR_del d s i, findR_put]
      split <;> rfl
    · rw [decide_eq_false h, cond_false, findR_put, findR_put, findR_del d s i]
      by_cases h2 : i = k
      · subst h2; simp [Ne.symm h]
      · simp [h2]
theorem fnd_mem {α : Type _} : ∀ (l : List (Nat × α)) (i : Nat) (v : α), fnd l i = some v → (i, v) ∈ l
  | [], i, v, h => by simp [fnd] at h
  | (d, w) :: l, i, v, h => by
    simp only [fnd, beqN] at h
    by_cases hd : i = d
    · subst hd
      simp only [decide_true, cond_true, Option.some.injEq] at h
      subst h; simp
    · rw [decide_eq_false hd, cond_false] at h
      exact List.mem_cons_of_mem _ (fnd_mem l i v h)
theorem okU_fnd {P : Program} : ∀ {l : List (Nat × TypeDesc)}, okU P l → ∀ {T : Nat} {u : TypeDesc}, fnd l T = some u → P.underlying T = some u
  | [], _, T, u, h => by simp [fnd] at h
  | (d, w) :: l, ho, T, u, h => by
    simp only [okU] at ho
    simp only [fnd, beqN] at h
    by_cases hd : T = d
    · subst hd
      simp only [decide_true, cond_true, Option.some.injEq] at h
      subst h; exact ho.1
    · rw [decide_eq_false hd, cond_false] at h
      exact okU_fnd ho.2 h
theorem okI_fnd {P : Program} : ∀ {l : List (Nat × (Value × Nat × Nat))}, okI P l → ∀ {T : Nat} {z : Value} {s b : Nat}, fnd l T = some (z, s, b) → TI P T z s b
  | [], _, T, z, s, b, h => by simp [fnd] at h
  | (d, w) :: l, ho, T, z, s, b, h => by
    simp only [okI] at ho
    simp only [fnd, beqN] at h
    by_cases hd : T = d
    · subst hd
      simp only [decide_true, cond_true, Option.some.injEq] at h
      subst h; exact ho.1
    · rw [decide_eq_false hd, cond_false] at h
      exact okI_fnd ho.2 h
theorem andK_all : ∀ (cs : List Prop) (K : Prop), andK cs K → (∀ c ∈ cs, c) ∧ K
  | [], K, h => ⟨by simp, h⟩
  | c :: cs, K, h => by
    obtain ⟨h1, h2⟩ := h
    obtain ⟨h3, h4⟩ := andK_all cs K h2
    exact ⟨fun x hx => by rcases List.mem_cons.1 hx with rfl | hx; exact h1; exact h3 x hx, h4⟩
theorem plR_row {ρ : Rho} {r : XRow} {row : Row} (k : RRow ρ r row) : RRow ρ (plR r) row := by
  cases r with
  | vecU e ap n sz i cs f => simpa [RRow, plR] using k
  | _ => exact k
theorem findR_pl : ∀ (h : List (Nat × XRow)) (i : Nat), findR (plH h) i = (findR h i).map plR
  | [], i => rfl
  | (d, r) :: l, i => by
    simp only [plH]
    rw [findR_put, findR_put, findR_pl l i]
    split <;> rfl
theorem Rel.pl {F : Fr} {ρ : Rho} {S : XS} {t : TM} {L : GH} (h : Rel F ρ S t L) : Rel F ρ S.pl t L := by
  have hs : ∀ i, (findR S.pl.h i).isSome = (findR S.h i).isSome := by
    intro i
    show (findR (plH S.h) i).isSome = _
    rw [findR_pl]
    cases findR S.h i <;> rfl
  refine ⟨h.sl, fun id r hf => ?_, fun i j g hi hj e1 e2 => h.inj i j g (by rw [← hs]; exact hi) (by rw [← hs]; exact hj) e1 e2, h.nx, fun b r hb => ?_, fun hp => ?_, h.gh⟩
  · change findR (plH S.h) id = some r at hf
    rw [findR_pl] at hf
    cases hq : findR S.h id with
    | none => rw [hq] at hf; cases hf
    | some q =>
      rw [hq] at hf
      obtain rfl := Option.some.inj hf
      rcases h.rw id q hq with ⟨g, row, h1, h2, h3⟩ | ⟨h1, e, sz, f, rfl⟩
      · exact .inl ⟨g, row, h1, h2, plR_row h3⟩
      · exact .inr ⟨h1, e, sz, f, rfl⟩
  · obtain ⟨h1, h2⟩ := h.fr b r hb
    exact ⟨h1, fun id hi => h2 id (by rw [← hs]; exact hi)⟩
  · obtain ⟨p1, p2, e, ap, cs, p3⟩ := h.pin hp
    refine ⟨p1, p2, e, ap, cs, ?_⟩
    show findR (plH S.h) 0 = _
    rw [findR_pl, p3]
    rfl
end Go.Proofs.YtljgkjkdmoejfaaAv
