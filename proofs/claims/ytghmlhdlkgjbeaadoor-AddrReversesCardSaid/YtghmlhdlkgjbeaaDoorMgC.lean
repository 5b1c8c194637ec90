/- Own texts, put together: AvXh; AvXi; AvXj; AvXk; AvXl; AvLib; Tab; Shelf; LbCut; LbSplit; PlS; PlB; LbNum. -/
import Derived.Test.YtghmlhdlkgjbeaaDoorMgB
import Derived.Below
import Derived.BigQuiet
import Derived.Test.YtghmlhdlkgjbeaaDoorProg
import Derived.Shelf.Strings.Builder1
import Derived.Shelf.Strings.Builder2
import Derived.Shelf.Strings.OnBuilder
import Derived.Shelf.Strings.BuilderF
import Derived.Shelf.Strings.BuilderK
import Derived.Shelf.Utf8.RuneCount
import Derived.Shelf.Strings.Builder2Cap
import Derived.Shelf.Strconv.Itoa0
import Derived.Shelf.Strconv.Itoa1
import Derived.Shelf.LaysM
import Derived.Shelf.Strconv.Itoa2
import Derived.Shelf.Strconv.Itoa3
import Derived.Shelf.Strconv.Itoa4
import Derived.Shelf.Strconv.Clone
import Derived.Shelf.Strconv.SyntaxError
import Derived.Shelf.LaysC
import Derived.Shelf.Strconv.ToError
import Derived.Shelf.Strconv.Lower
import Derived.Shelf.Strconv.ParseUint10
import Derived.Shelf.Strconv.ParseUint10Empty
import Derived.Shelf.Strconv.ParseUint10Any
import Derived.Shelf.Strconv.RangeError
import Derived.Shelf.Strconv.ToErrorRange
import Derived.Shelf.Strconv.ParseUintEmpty
import Derived.Shelf.Strconv.ParseUint10b64
import Derived.Shelf.Strconv.ParseUint10b32
import Derived.Shelf.Strconv.ParseUint10b16
import Derived.Shelf.Strconv.ParseUint10b8
import Derived.Shelf.Strconv.ParseUint10At
import Derived.Shelf.Strings.Search1
import Derived.Shelf.Strings.Search2
import Derived.Shelf.Strings.Search3
import Derived.Shelf.Strings.Cut
import Derived.Shelf.Strings.Count
import Derived.Shelf.Strings.Shaped
import Derived.Shelf.Strings.Prefix
import Derived.Shelf.Strings.Split
import Derived.Shelf.Strings.SplitShaped
import Derived.Shelf.Unicode.Decode
import Derived.Shelf.Strings.RuneCount
import Derived.Shelf.Strings.Explode
import Derived.Shelf.Unicode.DecodeSlow
import Derived.Shelf.Unicode.DecodeAny
import Derived.Shelf.Strings.BuilderCap
import Derived.Lib.Replace
import Derived.Lib.AppendIntMem
set_option linter.unusedVariables false
set_option linter.unusedSimpArgs false
namespace Go.Proofs.YtghmlhdlkgjbeaaDoorAv
open Go Go.RowKit
/-- A slot's value is a nil slice that is told as one's own. -/
theorem Rel.newN {F : Fr} {ρ : Rho} {S : XS} {t : TM} {L : GH} (h : Rel F ρ S t L) (e : TypeId) (sz : Nat) (f : Nat → List XV) :
    Rel F (ρ.set S.nx none) { S with h := (S.nx, .vec e true 0 sz f) :: S.h, nx := S.nx + 1 } t L := by
  have hnx := h.nx S.nx (Nat.le_refl _)
  have hm := set_mono (o := none) hnx
  refine ⟨fun i => RV.mono hm _ _ (h.sl i), fun i q hq => ?_, fun i j g' hi hj e1 e2 => ?_, fun i hi => ?_, fun b q hb => ?_, fun hp => pin_new hm (h.pin hp), RVL.mono hm _ _ h.gh⟩
  · simp only at hq
    rw [findR_put] at hq
    by_cases hi : i = S.nx
    · rw [if_pos hi] at hq
      obtain rfl := Option.some.inj hq
      subst hi
      exact .inr ⟨set_same _ _ _, e, sz, f, rfl⟩
    · rw [if_neg hi] at hq
      rcases h.rw i q hq with ⟨g', row', h1, h2, h3⟩ | ⟨h1, h2⟩
      · exact .inl ⟨g', row', hm _ _ h1, h2, h3.mono hm⟩
      · exact .inr ⟨hm _ _ h1, h2⟩
  · simp only at hi hj
    rw [findR_put] at hi hj
    have ni : i ≠ S.nx := by rintro rfl; rw [set_same] at e1; cases e1
    have nj : j ≠ S.nx := by rintro rfl; rw [set_same] at e2; cases e2
    rw [if_neg ni] at hi
    rw [if_neg nj] at hj
    rw [set_ne _ _ ni] at e1
    rw [set_ne _ _ nj] at e2
    exact h.inj i j g' hi hj e1 e2
  · simp only at hi
    rw [set_ne _ _ (by omega)]
    exact h.nx i (by omega)
  · obtain ⟨h1, h2⟩ := h.fr b q hb
    refine ⟨h1, fun i hi => ?_⟩
    simp only at hi
    rw [findR_put] at hi
    by_cases a1 : i = S.nx
    · rw [a1, set_same]; simp
    · rw [if_neg a1] at hi
      rw [set_ne _ _ a1]
      exact h2 i hi
theorem eqZ1_eq {a b : Value} (h : eqZ1 a b = true) : a = b := by
  unfold eqZ1 at h
  split at h
  · simp only [Bool.and_eq_true] at h
    obtain ⟨h1, h2⟩ := h
    rw [kb_eq h1]
    split at h2
    · rw [beqN, decide_eq_true_eq] at h2
      rw [h2]
    · cases h2
  · rw [beq_iff_eq] at h; rw [h]
  · rfl
  · rfl
  · cases h
theorem eqZ_eq : ∀ {l k : List Value}, eqZ l k = true → l = k
  | [], [], _ => rfl
  | a :: l, b :: k, h => by
    simp only [eqZ, Bool.and_eq_true] at h
    rw [eqZ1_eq h.1, eqZ_eq h.2]
  | [], _ :: _, h => by simp [eqZ] at h
  | _ :: _, [], h => by simp [eqZ] at h
theorem rep_vec {sz : Nat} {l : List Value} (hl : l.length = sz) : ∀ n, (repV n l).map AV.p = vecOf n sz fun _ => toAVL (l.map fun v => XV.v (.p v))
  | 0 => by simp [repV, vecOf]
  | n + 1 => by
    have e1 : toAVL (l.map fun v => XV.v (.p v)) = l.map AV.p := by
      rw [toAVL_map, List.map_map]; rfl
    have h1 : vecOf 1 sz (fun _ => toAVL (l.map fun v => XV.v (.p v))) = l.map AV.p := by
      rw [vecOf_one (g := fun _ => toAVL (l.map fun v => XV.v (.p v))) (by rw [e1]; simpa using hl), e1]
    rw [repV, List.map_append, rep_vec hl n, ← h1, vecOf_app, Nat.add_comm]
    apply vecOf_congr
    intro j hj
    cases Nat.blt j 1 <;> rfl
section
variable {P : Program} {N : Nat} {ops : Array Oper} {Q : Exit → TM → GH → Prop} {d : Option Nat} {ty : TypeId} {pos : String} {af : Array Edge} {op : Op} {ρ : Rho} {F : Fr} {S S' : XS} {t : TM} {L : GH} {v : XV} {os : List Oper}
theorem gxs_av : ∀ vs : List GV, toAVL (gxs vs) = vs.map GV.av
  | [] => rfl
  | .val v :: l => by simp only [gxs, toAVL, toAV, List.map_cons, GV.av, gxs_av l]
  | .int k :: l => by simp only [gxs, toAVL, toAV, List.map_cons, GV.av, gxs_av l]
  | .ifc :: l => by simp only [gxs, toAVL, toAV, List.map_cons, GV.av, gxs_av l]
theorem xev_ok (hR : Rel F ρ S t L) (x : Operand) : RV ρ (xev S.s x) (ev t x) := by
  cases x with
  | tmp n => exact hR.sl n
  | const v => simp [xev, RV, ev]
  | global g =>
    show RV ρ (match gfind glbT g with | some vs => .fp (gxs vs) | none => .top) (match gfind glbT g with | some vs => .fp (vs.map GV.av) | none => .top)
    cases gfind glbT g with
    | none => simp [RV]
    | some vs => simp only [RV]; exact ⟨[], by rw [gxs_av, List.append_nil]⟩
  | func f => simp [xev, RV, ev]
theorem st_none {G : List (Nat × Bool)} {y : XV} {b : AV} (h : RV ρ y b) (hc : ∀ p ∈ (y.st G none).1, p) : RV ρ (y.st G none).2 b := by
  cases y with
  | gd c k x =>
    simp only [RV] at h
    simp only [XV.st, sameK] at hc ⊢
    exact h.1 (all1 hc)
  | _ => exact h
theorem bytes_vec (b : ByteArray) : bytesAV b = vecOf b.size 1 fun j => toAVL [.v (.p (.int .u8 (sbyte b j)))] := by
  apply List.ext_getElem?
  intro c
  have hl : (bytesAV b).length = b.size := by
    have e : b.data.toList.length = b.size := by rw [Array.length_toList]; rfl
    simp only [bytesAV, List.length_map]
    exact e
  rcases Nat.lt_or_ge c b.size with h | h
  · have := vecOf_get (n := b.size) (sz := 1) (g := fun j => toAVL [.v (.p (.int .u8 (sbyte b j)))]) (i := c) (o := 0) h (by omega)
    rw [Nat.mul_one, Nat.add_zero] at this
    rw [this]
    simp only [bytesAV, List.getElem?_map]
    have hd : c < b.data.toList.length := by rw [Array.length_toList]; exact h
    rw [List.getElem?_eq_getElem hd]
    simp only [Option.map_some, toAVL, toAV, byteAV, sbyte, Int.toNat_natCast]
    rw [List.getD_eq_getElem?_getD, List.getD_eq_getElem?_getD, List.getElem?_eq_getElem hd]
    rfl
  · rw [List.getElem?_eq_none (by omega), List.getElem?_eq_none (by rw [vecOf_length]; omega)]
theorem xsrc_ok {h : List (Nat × XRow)} {sz m : Nat} {y : XV} {b : AV} {g : Nat → List XV} (hs : xsrc h sz y = some (m, g)) (hy : RV ρ y b) (L' : GH) : srcOf L' b = some (m, vecOf m sz fun i => toAVL (g i)) := by
  unfold xsrc at hs
  split at hs
  · split at hs
    · rename_i hb
      rw [beqN, decide_eq_true_eq] at hb
      simp only [Option.some.injEq, Prod.mk.injEq] at hs
      obtain ⟨rfl, rfl⟩ := hs
      subst hb
      simp only [RV, toAV] at hy
      rw [hy]; rfl
    · cases hs
  · split at hs
    · simp only [Option.some.injEq, Prod.mk.injEq] at hs
      obtain ⟨rfl, rfl⟩ := hs
      simp only [RV] at hy
      rw [hy]
      simp [srcOf, vecOf]
    · cases hs
  · cases hs
theorem xnew0_ok {X : Cx} (hX : X.ok P) {cs : List Prop} (hn : xnew0 X S op = some (cs, v, S')) (hc : ∀ p ∈ cs, p) (hR : Rel F ρ S t L) (hd : dok N d = true)
    (K : ∀ ρ' t' L', Rel F ρ' (S'.put d v) t' L' → JO P N ops Q os t' L') : JO P N ops Q (⟨d, op, ty, pos, af, none⟩ :: os) t L := by
  cases op with
  | alloc T =>
    simp only [xnew0] at hn
    split at hn
    · rename_i u z z1 z2 hu hi
      split at hn
      · rename_i h3
        simp only [Option.some.injEq, Prod.mk.injEq] at hn
        obtain ⟨rfl, rfl, rfl⟩ := hn
        refine R.alloc (okI_fnd hX.I hi) rfl (RVL.ones h3 (zcells_ok ρ z)) hd fun g hg => ?_
        refine K (ρ.set S.nx (some g)) _ _ (Rel.put (Rel.new hR hg ?_) d ?_)
        · simp only [RRow]; exact ⟨trivial, trivial, zcells_ok _ z⟩
        · simp only [RV]; exact ⟨g, set_same _ _ _, by simp⟩
      · cases hn
    · cases hn
  | box T x =>
    simp only [xnew0] at hn
    split at hn
    · rename_i h1
      simp only [Option.some.injEq, Prod.mk.injEq] at hn
      obtain ⟨rfl, rfl, rfl⟩ := hn
      obtain ⟨k1, k2⟩ := RV.cells h1 (st_none (xev_ok hR x) hc)
      refine JO.box rfl k2 hd fun g hg => ?_
      refine K (ρ.set S.nx (some g)) _ _ (Rel.put (Rel.new hR hg ?_) d ?_)
      · simp only [RRow]; exact ⟨trivial, trivial, RVL.mono (set_mono (hR.nx _ (Nat.le_refl _))) _ _ k1⟩
      · simp only [RV]; exact ⟨g, set_same _ _ _, by simp⟩
    · cases hn
  | makeSlice T x y =>
    simp only [xnew0] at hn
    split at hn
    · rename_i k l k' c e hx hy ht
      split at hn
      · rename_i z sz b hi
        split at hn
        · rename_i s' h2 h1
          simp only [Option.some.injEq, Prod.mk.injEq] at hn
          obtain ⟨rfl, rfl, rfl⟩ := hn
          have v1 := st_none (xev_ok hR x) (allL hc)
          have v2 := st_none (xev_ok hR y) (allL (allR hc))
          rw [hx] at v1
          rw [hy] at v2
          simp only [RV] at v1 v2
          have hcs := allR (allR hc)
          have c1 : 0 ≤ l := hcs _ (by simp)
          have c2 : l ≤ c := hcs _ (by simp)
          have c3 : c.toNat * b ≤ 140737488355328 := hcs _ (by simp)
          have c4 : c ≤ 140737488355328 := hcs _ (by simp)
          rw [beqN, decide_eq_true_eq] at h1
          have hrep : ∀ n, repl n z.cells.toList = repV n z.cells.toList := by
            intro n
            induction n with
            | zero => rfl
            | succ n ih => rw [repl, repV, ih]
          refine JO.makeSlice (okU_fnd hX.U ht) (okI_fnd hX.I hi) (by simpa using h1) v1 v2 c1 c2 c3 c4 (by omega) (RVL.ones h2 (zcells_ok ρ z)) hd fun g hg => ?_
          refine K (ρ.set S.nx (some g)) _ _ (Rel.put (Rel.new hR hg ?_) d ?_)
          · simp only [RRow]; rw [hrep, rep_vec h1]; rfl
          · simp only [RV]; exact .inl ⟨g, set_same _ _ _, by simp⟩
        · cases hn
      · cases hn
    · cases hn
  | convert Sx T x =>
    simp only [xnew0] at hn
    split at hn
    · rename_i e b hs ht hx
      split at hn
      · rename_i he
        simp only [Option.some.injEq, Prod.mk.injEq] at hn
        obtain ⟨rfl, rfl, rfl⟩ := hn
        have h1 := st_none (xev_ok hR x) hc
        rw [hx] at h1
        simp only [RV] at h1
        refine JO.toBytes (okU_fnd hX.U hs) (okU_fnd hX.U ht) (okU_fnd hX.U he) h1 hd fun g hg => ?_
        refine K (ρ.set S.nx (some g)) _ _ (Rel.put (Rel.new hR hg ?_) d ?_)
        · simp only [RRow]; rw [bytes_vec]
        · simp only [RV]; exact .inl ⟨g, set_same _ _ _, by simp⟩
      · cases hn
    · cases hn
  | call c =>
    obtain ⟨ce, ar, at'⟩ := c
    cases ce with
    | value y0 =>
      cases y0 with
      | func f =>
        simp only [xnew0] at hn
        split at hn
        · rename_i T M hM
          split at hn
          · rename_i cs' cells hm
            split at hn
            · rename_i h1
              simp only [Option.some.injEq, Prod.mk.injEq] at hn
              obtain ⟨rfl, rfl, rfl⟩ := hn
              obtain ⟨⟨fn, co, f1, f2, f3⟩, f4⟩ := hX.N f T M hM
              have hargs := xargs_ok ρ (ev t) ar.toList (fun x _ hc => st_none (xev_ok hR x) hc) (allL hc)
              obtain ⟨ds, k1, k2⟩ := f4 _ _ _ hm (allR hc) ρ _ hargs
              have := JO.call (P := P) (N := N) (ops := ops) (Q := Q) (d := d) (ty := ty) (pos := pos) (af := af) (os := os) (t := t) (L := L) (xs := ar.toList) (tys := at') f1 f2 f3 hd (k2 L) (by
                rintro r L' ⟨g, hg, rfl, rfl⟩
                refine K (ρ.set S.nx (some g)) _ _ (Rel.put (Rel.new hR hg ?_) d ?_)
                · simp only [RRow]; exact ⟨trivial, trivial, RVL.mono (set_mono (hR.nx _ (Nat.le_refl _))) _ _ k1⟩
                · simp only [RV]; exact ⟨g, set_same _ _ _, by simp⟩)
              simpa using this
            · cases hn
          · cases hn
        · cases hn
      | _ => simp [xnew0] at hn
    | invoke a b => simp [xnew0] at hn
    | builtin bi =>
    simp only [xnew0] at hn
    split at hn
    · rename_i x y T T' hcc hca hct
      injection hcc with hcc
      subst hcc
      have h1 : ar = #[x, y] := by rw [← Array.toArray_toList (xs := ar), hca]
      have h2 : at' = #[T, T'] := by rw [← Array.toArray_toList (xs := at'), hct]
      subst h1 h2
      split at hn
      · rename_i e hTT hu
        rw [beqN, decide_eq_true_eq] at hTT
        subst hTT
        split at hn
        · rename_i z sz b hi
          obtain ⟨ti, k1, k2, k3, k4⟩ := (okI_fnd hX.I hi).get
          split at hn
          · rename_i m g s' hsr hzl
            rw [beqN, decide_eq_true_eq] at hzl
            have hzz : z.cells.size = s' + 1 := by simpa using hzl
            have e2 : ∀ {l1 l2 : List Prop}, cs = l1 ++ (((xev S.s y).st [] none).1 ++ l2) → RV ρ ((xev S.s y).st [] none).2 (ev t y) := fun h => st_none (xev_ok hR y) (by rw [h] at hc; exact allL (allR hc))
            split at hn
            · rename_i hx
              simp only [Option.some.injEq, Prod.mk.injEq] at hn
              obtain ⟨rfl, rfl, rfl⟩ := hn
              have e1 := st_none (xev_ok hR x) (allL hc)
              have hb1 : m * b ≤ 140737488355328 := all1 (allR (allR hc))
              have hb2 : m ≤ 140737488355328 := all2 (allR (allR hc))
              rw [hx] at e1
              simp only [RV] at e1
              refine JO.append' (L0 := L) (og := none) (cs := []) (n := 0) (m := m) (ys := vecOf m (s' + 1) fun i => toAVL (g i)) (okU_fnd hX.U hu) k1 k2 k3 hzz (fun g h => by cases h) e1 (fun _ => ⟨rfl, rfl⟩) (by simp) (xsrc_ok hsr (e2 rfl) _) (vecOf_length _ _ _) (by rw [Nat.zero_add, k4]; exact hb1) (by omega) (Nat.succ_pos _) hd fun og' hF hnil => ?_
              rw [List.nil_append, Nat.zero_add]
              cases og' with
              | some g' =>
                refine K (ρ.set S.nx (some g')) _ _ (Rel.put (Rel.new hR (hF g' rfl) ?_) d ?_)
                · simp only [RRow]
                · simp only [RV]; exact .inl ⟨g', set_same _ _ _, by simp [hv]⟩
              | none =>
                have hm0 : m = 0 := by have := (hnil rfl).2; omega
                subst hm0
                refine K (ρ.set S.nx none) _ _ (Rel.put (Rel.newN hR e (s' + 1) g) d ?_)
                simp only [RV]
                exact .inr ⟨set_same _ _ _, trivial, trivial, rfl⟩
            · rename_i id s n hx
              split at hn
              · rename_i e' n' s2 f hq
                split at hn
                · rename_i q1 q2 q3
                  simp only [zipBif_eq, Option.some.injEq, Prod.mk.injEq] at hn
                  obtain ⟨rfl, rfl, rfl⟩ := hn
                  rw [beqN, decide_eq_true_eq] at q1 q2 q3
                  subst q1 q2 q3
                  have e1 := st_none (xev_ok hR x) (allL hc)
                  have hc3 := allR (allR hc)
                  have hnn : n' = n := all1 hc3
                  have hb1 : (n + m) * b ≤ 140737488355328 := all2 hc3
                  have hb2 : n + m ≤ 140737488355328 := all3 hc3
                  subst hnn
                  rw [hx] at e1
                  simp only [RV] at e1
                  have go : ∀ (L0 : GH) (og : Option Nat), L = updo L0 og ⟨e, true, vecOf n' (s' + 1) fun i => toAVL (f i)⟩ → Fre L0 og → ρ id = some og → ev t x = hv og (s' + 1) n' → (og = none → n' = 0) →
                      JO P N ops Q (⟨d, .call { callee := .builtin .append, args := #[x, y], argTypes := #[T, T] }, ty, pos, af, none⟩ :: os) t L := by
                    intro L0 og hL hF hid hxe hnil
                    subst hL
                    refine JO.append' (L0 := L0) (og := og) (cs := vecOf n' (s' + 1) fun i => toAVL (f i)) (n := n') (m := m) (ys := vecOf m (s' + 1) fun i => toAVL (g i)) (okU_fnd hX.U hu) k1 k2 k3 hzz hF hxe (fun h => ⟨by rw [hnil h]; simp [vecOf], hnil h⟩) (vecOf_length _ _ _) (xsrc_ok hsr (e2 rfl) _) (vecOf_length _ _ _)
                      (by rw [k4]; exact hb1) hb2 (Nat.succ_pos _) hd fun og' hF' hnil' => ?_
                    have hR2 := Rel.renew (r := .vec e true (n' + m) (s' + 1) fun j => bif Nat.blt j n' then f j else g (j - n')) (row := ⟨e, true, (vecOf n' (s' + 1) fun i => toAVL (f i)) ++ vecOf m (s' + 1) fun i => toAVL (g i)⟩) hR hF hq hid hF' (by intro e ap cs h; cases h) (by
                      cases og' with
                      | some g' =>
                        refine .inl ⟨g', rfl, ?_⟩
                        simp only [RRow]
                        rw [vecOf_app]
                        congr 1
                        apply vecOf_congr
                        intro j _
                        cases Nat.blt j n' <;> rfl
                      | none =>
                        have : n' + m = 0 := (hnil' rfl).2
                        exact .inr ⟨rfl, e, s' + 1, _, by rw [this]⟩)
                    refine K _ _ _ (Rel.put hR2 d ?_)
                    simp only [RV]
                    cases og' with
                    | some g' => exact .inl ⟨g', set_same _ _ _, by simp [hv]⟩
                    | none => exact .inr ⟨set_same _ _ _, (hnil' rfl).2, trivial, rfl⟩
                  rcases e1 with ⟨g0, hid, hxe⟩ | ⟨hid, hn0, -, hxe⟩
                  · obtain ⟨row, hL, hrow⟩ := (hR.rw id _ hq).some_g hid
                    simp only [RRow] at hrow
                    subst hrow
                    refine go (del L g0) (some g0) ?_ (fun g' h => by obtain rfl := Option.some.inj h; simp [del]) hid (by rw [hxe]; simp [hv]) (fun h => by cases h)
                    funext b'
                    simp only [updo, upd, del]
                    split
                    · rename_i hb'; rw [hb', hL]
                    · rfl
                  · exact go L none rfl (fun g' h => by cases h) hid (by rw [hxe]; rfl) (fun _ => hn0)
                · cases hn
              · cases hn
            · rename_i n s f hx
              split at hn
              · rename_i q1
                simp only [zipBif_eq, Option.some.injEq, Prod.mk.injEq] at hn
                obtain ⟨rfl, rfl, rfl⟩ := hn
                rw [beqN, decide_eq_true_eq] at q1
                subst q1
                have e1 := st_none (xev_ok hR x) (allL hc)
                have hb1 : (n + m) * b ≤ 140737488355328 := all1 (allR (allR hc))
                have hb2 : n + m ≤ 140737488355328 := all2 (allR (allR hc))
                rw [hx] at e1
                simp only [RV] at e1
                refine JO.appendC (L := L) (n := n) (m := m) (cs := vecOf n (s' + 1) fun i => toAVL (f i)) (ys := vecOf m (s' + 1) fun i => toAVL (g i)) (okU_fnd hX.U hu) k1 k2 k3 hzz e1 (vecOf_length _ _ _) (xsrc_ok hsr (e2 rfl) _) (vecOf_length _ _ _) (by rw [k4]; exact hb1) hb2 (Nat.succ_pos _) hd ?_
                refine K ρ _ _ (Rel.put hR d ?_)
                simp only [RV, toAV]
                rw [vecOf_app]
                congr 1
                apply vecOf_congr
                intro j _
                cases Nat.blt j n <;> rfl
              · cases hn
            · cases hn
          · cases hn
        · cases hn
      · cases hn
    · cases hn
  | _ => simp [xnew0] at hn
theorem xnew_ok {X : Cx} (hX : X.ok P) {cs : List Prop} (hn : xnew X S op = some (cs, v, S')) (hc : ∀ p ∈ cs, p) (hR : Rel F ρ S t L) (hd : dok N d = true)
    (K : ∀ ρ' t' L', Rel F ρ' (S'.put d v) t' L' → JO P N ops Q os t' L') : JO P N ops Q (⟨d, op, ty, pos, af, none⟩ :: os) t L := xnew0_ok hX hn hc hR.pl hd K
end
end Go.Proofs.YtghmlhdlkgjbeaaDoorAv
set_option linter.unusedVariables false
set_option linter.unusedSimpArgs false
namespace Go.Proofs.YtghmlhdlkgjbeaaDoorAv
open Go Go.RowKit
theorem xdok_eq {N : Nat} {d : Option Nat} (h : xdok N d = true) : dok N d = true := by
  cases d with
  | none => rfl
  | some d => simp only [xdok, bltN, decide_eq_true_eq] at h; simpa [dok] using h
/-- What is known of tests by their keys. -/
def GI (ops : List Oper) (s : List (Nat × XV)) (G : List (Nat × Bool)) : Prop :=
  ∀ k g, fnd G k = some g → (∃ j b, k = gkey j b ∧ guardOf ops s j b = some g) ∧ ∀ i c x, look s i = .gd c (some k) x → c = g
theorem GI.nil (ops : List Oper) (s : List (Nat × XV)) : GI ops s [] := fun k g h => by simp [fnd] at h
theorem guardOf_put {ops : List Oper} {s : List (Nat × XV)} {d : Nat} {v : XV} {j : Nat} {b : Bool} (h : ∀ o, nth ops j = some o → o.dst ≠ some d) : guardOf ops ((d, v) :: s) j b = guardOf ops s j b := by
  unfold guardOf
  cases hn : nth ops j with
  | none => rfl
  | some o =>
    obtain ⟨od, op, ty, pos, af, gd⟩ := o
    cases od with
    | none => rfl
    | some d' =>
      simp only
      rw [look_put, if_neg]
      rintro rfl
      exact h _ hn rfl
theorem gkey_div (j : Nat) (b : Bool) : gkey j b / 2 = j := by
  cases b <;> simp [gkey] <;> omega
theorem gkey_inj {j j' : Nat} {b b' : Bool} (h : gkey j b = gkey j' b') : j = j' ∧ b = b' := by
  have e := gkey_div j b
  rw [h, gkey_div] at e
  subst e
  refine ⟨rfl, ?_⟩
  cases b <;> cases b' <;> simp [gkey] at h <;> rfl
theorem dropG_fnd {ops : List Oper} {d : Nat} : ∀ {G : List (Nat × Bool)} {k : Nat} {g : Bool}, fnd (dropG ops d G) k = some g → fnd G k = some g ∨ (∃ g', fnd G k = some g' ∧ False) ∨ (k, g) ∈ G
  | G, k, g, h => by
    have := fnd_mem _ _ _ h
    refine .inr (.inr ?_)
    clear h
    induction G with
    | nil => simp [dropG] at this
    | cons q G ih =>
      obtain ⟨k', g'⟩ := q
      simp only [dropG] at this
      split at this
      · cases hb : Nat.beq d _ with
        | true => rw [hb, cond_true] at this; exact List.mem_cons_of_mem _ (ih this)
        | false =>
          rw [hb, cond_false] at this
          rcases List.mem_cons.1 this with h | h
          · rw [h]; simp
          · exact List.mem_cons_of_mem _ (ih h)
      · exact List.mem_cons_of_mem _ (ih this)
/-- All that is listed of tests. -/
def GA (ops : List Oper) (s : List (Nat × XV)) (G : List (Nat × Bool)) : Prop :=
  ∀ k g, (k, g) ∈ G → (∃ j b, k = gkey j b ∧ guardOf ops s j b = some g) ∧ ∀ i c x, look s i = .gd c (some k) x → c = g
theorem GA.fnd {ops : List Oper} {s : List (Nat × XV)} {G : List (Nat × Bool)} (h : GA ops s G) {k : Nat} {g : Bool} (hf : YtghmlhdlkgjbeaaDoorAv.fnd G k = some g) : (∃ j b, k = gkey j b ∧ guardOf ops s j b = some g) ∧ ∀ i c x, look s i = .gd c (some k) x → c = g := h k g (fnd_mem _ _ _ hf)
theorem GA.nil (ops : List Oper) (s : List (Nat × XV)) : GA ops s [] := fun k g h => by cases h
theorem dropG_mem {ops : List Oper} {d : Nat} : ∀ {G : List (Nat × Bool)} {k : Nat} {g : Bool}, (k, g) ∈ dropG ops d G → (k, g) ∈ G ∧ ∃ o, nth ops (k / 2) = some o ∧ o.dst ≠ some d
  | [], k, g, h => by simp [dropG] at h
  | (k', g') :: G, k, g, h => by
    simp only [dropG] at h
    split at h
    · rename_i d' o1 o2 o3 o4 o5 hn
      rw [beqN] at h
      by_cases hd : d = d'
      · rw [decide_eq_true hd, cond_true] at h
        obtain ⟨h1, h2⟩ := dropG_mem h
        exact ⟨List.mem_cons_of_mem _ h1, h2⟩
      · rw [decide_eq_false hd, cond_false] at h
        rcases List.mem_cons.1 h with h | h
        · simp only [Prod.mk.injEq] at h
          obtain ⟨rfl, rfl⟩ := h
          exact ⟨by simp, _, hn, fun e => hd (Option.some.inj e).symm⟩
        · obtain ⟨h1, h2⟩ := dropG_mem h
          exact ⟨List.mem_cons_of_mem _ h1, h2⟩
    · obtain ⟨h1, h2⟩ := dropG_mem h
      exact ⟨List.mem_cons_of_mem _ h1, h2⟩
/-- A value put into a slot. -/
theorem GA.put {ops : List Oper} {s : List (Nat × XV)} {G : List (Nat × Bool)} (h : GA ops s G) {d : Nat} {v : XV} (hv : ∀ c k x, v = .gd c (some k) x → ∀ g, (k, g) ∈ G → c = g) : GA ops ((d, v) :: s) (dropG ops d G) := by
  intro k g hk
  obtain ⟨h1, o, h2, h3⟩ := dropG_mem hk
  obtain ⟨⟨j, b, rfl, e2⟩, e3⟩ := h k g h1
  rw [gkey_div] at h2
  refine ⟨⟨j, b, rfl, ?_⟩, fun i c x hl => ?_⟩
  · rw [guardOf_put]
    · exact e2
    · intro o' ho'
      rw [h2] at ho'
      obtain rfl := Option.some.inj ho'
      exact h3
  · rw [look_put] at hl
    split at hl
    · exact hv c _ x hl g h1
    · exact e3 i c x hl
theorem noKey_ok {k : Nat} : ∀ {s : List (Nat × XV)}, noKey k s = true → ∀ i c x, look s i ≠ .gd c (some k) x
  | [], _, i, c, x, h => by simp [look] at h
  | (d, v) :: s, hk, i, c, x, h => by
    rw [look_put] at h
    have hs : noKey k s = true := by
      unfold noKey at hk
      split at hk
      · rename_i heq; cases heq
      · rename_i heq; injection heq with h1 h2; subst h2; simp only [Bool.and_eq_true] at hk; exact hk.2
      · rename_i heq; injection heq with h1 h2; subst h2; exact hk
    split at h
    · subst h
      simp [noKey, beqN] at hk
    · exact noKey_ok hs i c x h
section
variable {P : Program} {N : Nat} {ops : Array Oper} {Q : Exit → TM → GH → Prop} {d : Option Nat} {ty : TypeId} {pos : String} {af : Array Edge} {op : Op} {ρ : Rho} {F : Fr} {S S' : XS} {t : TM} {L : GH} {v : XV} {os : List Oper}
/-- A value as an operation under a test sees it. -/
theorem st_ok {o : List Oper} {s : List (Nat × XV)} {G : List (Nat × Bool)} {key : Option Nat} {i : Nat} {b : AV} (hG : GA o s G) (hr : RV ρ (look s i) b) (hk : ∀ k g, key = some k → fnd G k = some g → g = true) (hc : ∀ p ∈ ((look s i).st G key).1, p) :
    RV ρ ((look s i).st G key).2 b := by
  cases hl : look s i with
  | gd c k x =>
    rw [hl] at hr hc
    simp only [RV] at hr
    simp only [XV.st] at hc ⊢
    cases hs : sameK G key k with
    | true =>
      simp only
      refine hr.1 ?_
      unfold sameK at hs
      split at hs
      · rename_i k1 k2
        split at hs
        · rename_i q hb hf
          rw [beqN, decide_eq_true_eq] at hb
          subst hb
          rw [(hG.fnd hf).2 i c x hl]
          exact hk _ _ rfl hf
        · cases hs
      · cases hs
    | false =>
      rw [hs] at hc
      exact hr.1 (all1 hc)
  | _ => rw [hl] at hr hc; exact hr
theorem st_okO {o : List Oper} {G : List (Nat × Bool)} {key : Option Nat} {x : Operand} (hR : Rel F ρ S t L) (hG : GA o S.s G) (hk : ∀ k g, key = some k → fnd G k = some g → g = true) (hc : ∀ p ∈ ((xev S.s x).st G key).1, p) : RV ρ ((xev S.s x).st G key).2 (ev t x) := by
  cases x with
  | tmp n => exact st_ok hG (hR.sl n) hk hc
  | const v => simp [xev, XV.st, RV, ev]
  | global g =>
    have := xev_ok hR (.global g)
    have hn : ∀ c k x, xev S.s (.global g) ≠ .gd c k x := by
      intro c k x h
      simp only [xev] at h
      split at h <;> cases h
    cases hx : xev S.s (.global g) with
    | gd c k x => exact absurd hx (hn c k x)
    | _ => rw [hx] at this; exact this
  | func f => simp [xev, XV.st, RV, ev]
theorem whose_ok {s : Nat} : ∀ {l : List Oper} {j0 j : Nat}, whose s l j0 = some j → ∃ o, nth l (j - j0) = some o ∧ o.dst = some s ∧ j0 ≤ j
  | [], j0, j, h => by simp [whose] at h
  | o :: l, j0, j, h => by
    obtain ⟨od, op, ty, pos, af, gd⟩ := o
    have step : whose s l (j0 + 1) = some j → ∃ o', nth (⟨od, op, ty, pos, af, gd⟩ :: l) (j - j0) = some o' ∧ o'.dst = some s ∧ j0 ≤ j := by
      intro h
      obtain ⟨o', h1, h2, h3⟩ := whose_ok h
      refine ⟨o', ?_, h2, by omega⟩
      rw [show j - j0 = (j - (j0 + 1)) + 1 by omega]
      exact h1
    cases od with
    | none => simp only [whose] at h; exact step h
    | some d =>
      simp only [whose, beqN] at h
      by_cases hd : d = s
      · rw [decide_eq_true hd, cond_true] at h
        obtain rfl := Option.some.inj h
        subst hd
        exact ⟨⟨some d, op, ty, pos, af, gd⟩, by simp [nth], rfl, Nat.le_refl _⟩
      · rw [decide_eq_false hd, cond_false] at h
        exact step h
theorem pick_ok {G : List (Nat × Bool)} {key : Option Nat} (hR : Rel F ρ S t L) (hG : GA ops.toList S.s G) (hk : ∀ k g, key = some k → fnd G k = some g → g = true) (c a b : Operand) (hop : op = .pick c a b) (tb : Bool) (hc : ∀ p ∈ ((xev S.s c).st G key).1, p)
    (hv : ((xev S.s c).st G key).2 = .v (.p (.bool tb))) :
    (tb = true → (∀ p ∈ ((xev S.s a).st G (pickKey ops.toList true op)).1, p) → RV ρ ((xev S.s a).st G (pickKey ops.toList true op)).2 (ev t a)) ∧
    (tb = false → (∀ p ∈ ((xev S.s b).st G (pickKey ops.toList false op)).1, p) → RV ρ ((xev S.s b).st G (pickKey ops.toList false op)).2 (ev t b)) := by
  have key2 : ∀ (bb : Bool), (bif bb then tb else !tb) = true → ∀ k g, pickKey ops.toList bb op = some k → fnd G k = some g → g = true := by
    intro bb hbb k g hp hf
    subst hop
    unfold pickKey at hp
    split at hp
    · rename_i s a1 a2 heq
      injection heq with h1 h2 h3
      subst h1 h2 h3
      split at hp
      · rename_i j hw
        obtain rfl := Option.some.inj hp
        obtain ⟨o, ho, hd, _⟩ := whose_ok hw
        rw [Nat.sub_zero] at ho
        obtain ⟨⟨j', b', hkk, hgo⟩, _⟩ := hG.fnd hf
        obtain ⟨rfl, rfl⟩ := gkey_inj hkk
        obtain ⟨od, oop, oty, opos, oaf, ogd⟩ := o
        simp only at hd
        subst hd
        simp only [guardOf, ho] at hgo
        simp only [xev] at hv hc
        cases hl : look S.s s with
        | v av =>
          rw [hl] at hv hgo
          simp only [XV.st] at hv
          injection hv with hv
          subst hv
          simp only [Option.some.injEq] at hgo
          rw [← hgo]; exact hbb
        | gd c0 k0 x0 =>
          rw [hl] at hv hgo hc
          have hx0 : x0 = .v (.p (.bool tb)) := by
            simp only [XV.st] at hv
            split at hv <;> exact hv
          subst hx0
          simp only [Option.some.injEq] at hgo
          have hc0 : c0 = true := by
            simp only [XV.st] at hc
            cases hs : sameK G key k0 with
            | false => rw [hs] at hc; exact all1 hc
            | true =>
              unfold sameK at hs
              split at hs
              · rename_i k1 k2
                split at hs
                · rename_i q hb hf2
                  rw [beqN, decide_eq_true_eq] at hb
                  subst hb
                  rw [(hG.fnd hf2).2 s c0 _ hl]
                  exact hk _ _ rfl hf2
                · cases hs
              · cases hs
          rw [← hgo, hc0, Bool.true_and]
          exact hbb
        | _ => rw [hl] at hgo; cases hgo
      · cases hp
    · cases hp
  exact ⟨fun h => st_okO hR hG (key2 true (by simpa using h)), fun h => st_okO hR hG (key2 false (by simpa using h))⟩
/-- Where a slot lies beyond the frame, nothing but what is not there lies in it. -/
theorem JO.outside {s : Nat} {c : Bool} (hs : ¬ s < N) (ht : t s = .p (.bool c)) : JO P N ops Q os t L := by
  intro L0 w0 a w he sm
  have hv := sm.tm s
  rw [ht] at hv
  simp only [VS] at hv
  have : a.tmps.getD s undef = undef := by
    rw [Array.getD_eq_getD_getElem?, Array.getElem?_eq_none (by rw [sm.size]; exact Nat.le_of_not_lt hs)]
    rfl
  rw [this] at hv
  simp [undef] at hv
theorem nth_bind {j s : Nat} {o : Oper} (hn : nth ops.toList j = some o) (hd : o.dst = some s) : (ops[j]?).bind (·.dst) = some s := by
  rw [nth_eq] at hn
  have : ops[j]? = some o := by simpa using hn
  rw [this]; exact hd
/-- An operation under a test. -/
theorem guard_ok {j : Nat} {b g : Bool} {d : Nat} (hR : ∀ o s, nth ops.toList j = some o → o.dst = some s → RV ρ (look S.s s) (t s)) (hg : guardOf ops.toList S.s j b = some g) (hd : dok N (some d) = true)
    (h1 : g = true → JO P N ops Q (⟨some d, op, ty, pos, af, none⟩ :: os) t L) (h2 : g = false → JO P N ops Q os (t.put d (.p undef)) L) : JO P N ops Q (⟨some d, op, ty, pos, af, some (j, b)⟩ :: os) t L := by
  have hdN : d < N := dok_lt hd d rfl
  unfold guardOf at hg
  split at hg
  · rename_i s o1 o2 o3 o4 o5 hn
    have hj := nth_bind hn rfl
    have hsl := hR _ s hn rfl
    by_cases hs : s < N
    · split at hg
      · rename_i c hl
        rw [hl] at hsl
        simp only [RV] at hsl
        obtain rfl := Option.some.inj hg
        cases b <;> cases c
        · exact JO.on hs hj hsl rfl (h1 rfl)
        · exact JO.off hdN hs hj hsl rfl (h2 rfl)
        · exact JO.off hdN hs hj hsl rfl (h2 rfl)
        · exact JO.on hs hj hsl rfl (h1 rfl)
      · rename_i c0 k c hl
        rw [hl] at hsl
        simp only [RV] at hsl
        obtain rfl := Option.some.inj hg
        cases c0 with
        | false => exact JO.offU hdN hs hj (hsl.2 rfl) (h2 rfl)
        | true =>
          have := hsl.1 rfl
          cases b <;> cases c
          · exact JO.on hs hj this rfl (h1 rfl)
          · exact JO.off hdN hs hj this rfl (h2 rfl)
          · exact JO.off hdN hs hj this rfl (h2 rfl)
          · exact JO.on hs hj this rfl (h1 rfl)
      · cases hg
    · -- beyond the frame
      split at hg
      · rename_i c hl
        rw [hl] at hsl
        simp only [RV] at hsl
        exact JO.outside hs hsl
      · rename_i c0 k c hl
        rw [hl] at hsl
        simp only [RV] at hsl
        obtain rfl := Option.some.inj hg
        cases c0 with
        | true => exact JO.outside hs (hsl.1 rfl)
        | false =>
          refine fun L0 w0 a w he sm => ?_
          have hv := sm.tm s
          have hw : Region.wanted ⟨some d, op, ty, pos, af, some (j, b)⟩ (yielded ops a.tmps) = false := by
            have hno : a.tmps[s]? = none := Array.getElem?_eq_none (by rw [sm.size]; exact Nat.le_of_not_lt hs)
            simp [Region.wanted, yielded, hj, hno]
          unfold wpList
          rw [if_neg (by rw [hw]; simp)]
          exact h2 rfl L0 w0 _ w he (sm.put d hdN (by simp [VS]))
      · cases hg
  · cases hg
theorem xguard_ok {G G' : List (Nat × Bool)} {j : Nat} {b g : Bool} {k : Option Nat} (hG : GA ops.toList S.s G) (h : xguard ops.toList S G j b = some (g, k, G')) :
    guardOf ops.toList S.s j b = some g ∧ GA ops.toList S.s G' ∧ ∀ k', k = some k' → ∀ g', (k', g') ∈ G' → g' = g := by
  have fin : guardOf ops.toList S.s j b = some g → GA ops.toList S.s G' → (k = some (gkey j b) ∨ k = none) → guardOf ops.toList S.s j b = some g ∧ GA ops.toList S.s G' ∧ ∀ k', k = some k' → ∀ g', (k', g') ∈ G' → g' = g := by
    intro e1 e2 hk
    refine ⟨e1, e2, fun k' h1 g' h2 => ?_⟩
    rcases hk with rfl | rfl
    · obtain rfl := Option.some.inj h1
      obtain ⟨⟨j', b', e3, e4⟩, _⟩ := e2 _ _ h2
      obtain ⟨rfl, rfl⟩ := gkey_inj e3
      rw [e1] at e4
      exact (Option.some.inj e4).symm
    · cases h1
  unfold xguard at h
  split at h
  · rename_i g0 hf
    simp only [Option.some.injEq, Prod.mk.injEq] at h
    obtain ⟨rfl, rfl, rfl⟩ := h
    obtain ⟨⟨j', b', e3, e4⟩, _⟩ := hG.fnd hf
    obtain ⟨rfl, rfl⟩ := gkey_inj e3
    exact fin e4 hG (.inl rfl)
  · split at h
    · rename_i g0 hgo
      split at h
      · rename_i hnk
        simp only [Option.some.injEq, Prod.mk.injEq] at h
        obtain ⟨rfl, rfl, rfl⟩ := h
        refine fin hgo ?_ (.inl rfl)
        intro k g hk
        rcases List.mem_cons.1 hk with hk | hk
        · simp only [Prod.mk.injEq] at hk
          obtain ⟨rfl, rfl⟩ := hk
          exact ⟨⟨j, b, rfl, hgo⟩, fun i c x hl => absurd hl (noKey_ok hnk i c x)⟩
        · exact hG k g hk
      · simp only [Option.some.injEq, Prod.mk.injEq] at h
        obtain ⟨rfl, rfl, rfl⟩ := h
        exact fin hgo hG (.inr rfl)
    · cases h
theorem RRow.rows {rows : Nat → Row} {h : List (Nat × XRow)} (hrw : ∀ id r, findR h id = some r → RR ρ L id r) (hrows : ∀ id g, ρ id = some (some g) → (findR h id).isSome = true → L g = some (rows id)) :
    ∀ id r, findR h id = some r → ∀ g, ρ id = some (some g) → RRow ρ r (rows id) := by
  intro id r hf g hg
  obtain ⟨row, h1, h2⟩ := (hrw id r hf).some_g hg
  rw [hrows id g hg (by rw [hf]; rfl)] at h1
  obtain rfl := Option.some.inj h1
  exact h2
def rowsOf (ρ : Rho) (L : GH) : Nat → Row := fun id => match ρ id with
  | some (some g) => (L g).getD ⟨0, false, []⟩
  | _ => ⟨0, false, []⟩
theorem rowsOf_ok (hR : Rel F ρ S t L) : ∀ id g, ρ id = some (some g) → (findR S.h id).isSome = true → L g = some (rowsOf ρ L id) := by
  intro id g hg hs
  cases hf : findR S.h id with
  | none => rw [hf] at hs; cases hs
  | some r =>
    obtain ⟨row, h1, _⟩ := (hR.rw id r hf).some_g hg
    simp [rowsOf, hg, h1]
theorem xop_wr {X : Cx} {h : List (Nat × XRow)} {e eT eF : Operand → List Prop × XV} {cs : List Prop} {id : Nat} {r : XRow} (hb : xop X h e eT eF op = some (cs, v, some (id, r))) : (findR h id).isSome = true ∧ id ∈ touchX e op ∧ ∀ e ap cs, findR h id = some (.one e ap cs) → ∃ e' ap' cs', r = .one e' ap' cs' := by
  cases op with
  | store T x y =>
    simp only [xop] at hb
    split at hb
    · split at hb
      · split at hb
        · rename_i cs' u hx
          simp only [Option.some.injEq, Prod.mk.injEq] at hb
          obtain ⟨-, -, rfl⟩ := hb
          unfold xstore at hx
          simp only [xforce_eq] at hx
          split at hx
          · rename_i id' sz i o heq
            split at hx
            · rename_i hf
              split at hx
              · simp only [Option.some.injEq, Prod.mk.injEq] at hx
                obtain ⟨-, rfl, rfl⟩ := hx
                exact ⟨by rw [hf]; rfl, by simp [touchX, heq, ptrId], fun _ _ _ _ => ⟨_, _, _, rfl⟩⟩
              · split at hx
                · simp only [Option.some.injEq, Prod.mk.injEq] at hx
                  obtain ⟨-, rfl, rfl⟩ := hx
                  exact ⟨by rw [hf]; rfl, by simp [touchX, heq, ptrId], fun _ _ _ _ => ⟨_, _, _, rfl⟩⟩
                · cases hx
              · cases hx
            · rename_i hf
              split at hx
              · simp only [Option.some.injEq, Prod.mk.injEq] at hx
                obtain ⟨-, rfl, -⟩ := hx
                exact ⟨by rw [hf]; rfl, by simp [touchX, heq, ptrId], fun _ _ _ h => by rw [hf] at h; cases h⟩
              · cases hx
            · rename_i hf
              split at hx
              · simp only [Option.some.injEq, Prod.mk.injEq] at hx
                obtain ⟨-, rfl, -⟩ := hx
                exact ⟨by rw [hf]; rfl, by simp [touchX, heq, ptrId], fun _ _ _ h => by rw [hf] at h; cases h⟩
              · cases hx
            · cases hx
          · cases hx
        · cases hb
      · cases hb
    · cases hb
  | pick c a b =>
    simp only [xop] at hb
    split at hb
    · split at hb <;> simp at hb
    · cases hb
  | slice T x lo hi mx =>
    cases mx with
    | some mm =>
      cases lo with
      | some _ => simp [xop] at hb
      | none =>
        cases hi with
        | none => simp [xop] at hb
        | some hh =>
          simp only [xop] at hb
          split at hb
          · split at hb <;> simp at hb
          · cases hb
    | none =>
      simp only [xop] at hb
      split at hb
      · simp at hb
      · split at hb <;> simp at hb
  | call c =>
    simp only [xop] at hb
    split at hb
    · split at hb
      · split at hb <;> simp at hb
      · cases hb
    · split at hb <;> simp at hb
    · split at hb <;> simp at hb
    · split at hb
      · split at hb <;> simp at hb
      · split at hb
        · rename_i H id' rest hH ha
          split at hb
          · rename_i el ap cells hf
            split at hb
            · simp at hb
            · simp only [Option.some.injEq, Prod.mk.injEq] at hb
              obtain ⟨-, -, rfl, rfl⟩ := hb
              refine ⟨by rw [hf]; rfl, ?_, fun _ _ _ _ => ⟨_, _, _, rfl⟩⟩
              simp only [touchX]
              cases hl : c.args.toList with
              | nil => rw [hl] at ha; cases ha
              | cons x0 xs =>
                rw [hl] at ha
                simp only [xargs, List.cons.injEq] at ha
                simp [ha.1, ptrId]
            · cases hb
          · cases hb
        · cases hb
    · cases hb
  | _ => first | (simp [xop] at hb; done) | (simp only [xop] at hb; (repeat' split at hb) <;> simp at hb)
theorem store_wr {X : Cx} {h : List (Nat × XRow)} {e eT eF : Operand → List Prop × XV} {cs : List Prop} {w : Option (Nat × XRow)} {T : TypeId} {x y : Operand} (hb : xop X h e eT eF (.store T x y) = some (cs, v, w)) : w ≠ none := by
  simp only [xop] at hb
  split at hb
  · split at hb
    · split at hb
      · simp only [Option.some.injEq, Prod.mk.injEq] at hb
        obtain ⟨-, -, rfl⟩ := hb
        simp
      · cases hb
    · cases hb
  · cases hb
theorem Rel.step {w : Option (Nat × XRow)} {W : Option (Nat × Row)} {v' : AV} (hR : Rel F ρ S t L) (d : Option Nat) (hv : RV ρ v v') (hw : WRel ρ w W) (hid : ∀ id r, w = some (id, r) → (findR S.h id).isSome = true ∧ ∀ e ap cs, findR S.h id = some (.one e ap cs) → ∃ e' ap' cs', r = .one e' ap' cs') : Rel F ρ ((S.put d v).wr w) (t.putO d v') (appW L W) := by
  have h1 := hR.put d hv
  cases w with
  | none =>
    cases W with
    | none => exact h1
    | some W => exact hw.elim
  | some w =>
    cases W with
    | none => obtain ⟨a, b⟩ := w; exact hw.elim
    | some W =>
      obtain ⟨id, r⟩ := w
      obtain ⟨g, row⟩ := W
      obtain ⟨k1, k2⟩ := hw
      have hs : (findR (S.put d v).h id).isSome = true ∧ ∀ e ap cs, findR (S.put d v).h id = some (.one e ap cs) → ∃ e' ap' cs', r = .one e' ap' cs' := by
        have := hid id r rfl
        cases d <;> exact this
      exact h1.wr hs.1 k1 k2 hs.2
theorem wr_s (S : XS) (w : Option (Nat × XRow)) : (S.wr w).s = S.s := by cases w <;> rfl
theorem put_s (S : XS) (d : Option Nat) (v : XV) : (S.put d v).s = (match d with | some d => (d, v) :: S.s | none => S.s) := by cases d <;> rfl
theorem st_gd {G : List (Nat × Bool)} {key : Option Nat} {y : XV} : ∀ c k x, (y.st G key).2 = .gd c k x → ∃ c', ∃ k', y = .gd c' k' (.gd c k x) := by
  intro c k x h
  cases y with
  | gd c' k' x' =>
    simp only [XV.st] at h
    split at h <;> exact ⟨c', k', by rw [← h]⟩
  | _ => cases h
theorem gs_in {s : List (Nat × XV)} {t : TM} {ρ : Rho} (h : ∀ i, RV ρ (look s i) (t i)) {gs : List XV} {tg : List AV} (hg : RVL ρ gs tg) : ∀ l : List (Nat × XV), RVL ρ (gsApp (gsIn s l) gs) (l.map (fun p => t p.1) ++ tg)
  | [] => hg
  | (d, v) :: l => by
    simp only [gsIn, gsApp, List.map_cons, List.cons_append, RVL]
    exact ⟨h d, gs_in h hg l⟩
theorem gs_out {t : TM} {ρ : Rho} {tg : List AV} : ∀ (l : List (Nat × XV)) (vs : List XV), RVL ρ vs (l.map (fun p => t p.1) ++ tg) → (∀ i, RV ρ (look (gsOut l vs) i) (t i)) ∧ RVL ρ (gsRest l vs) tg
  | [], vs, h => ⟨fun i => by simp [gsOut, look, RV], by simpa [gsRest] using h⟩
  | (d, u) :: l, [], h => by simp [RVL] at h
  | (d, u) :: l, v :: vs, h => by
    simp only [List.map_cons, List.cons_append, RVL] at h
    obtain ⟨h1, h2⟩ := gs_out l vs h.2
    refine ⟨fun i => ?_, h2⟩
    simp only [gsOut]
    rw [look_put]
    split
    · rename_i hi; rw [hi]; exact h.1
    · exact h1 i
/-- A call that may change what is told of memory. -/
theorem xcallL_ok {X : Cx} (hX : X.ok P) {K : XV → XS → Prop} (h : xcallL X S K op) (hR : Rel F ρ S t L) (hd : dok N d = true)
    (hK : ∀ v ρ' S' t' L', K v S' → Rel F ρ' (S'.put d v) t' L' → JO P N ops Q os t' L') : JO P N ops Q (⟨d, op, ty, pos, af, none⟩ :: os) t L := by
  unfold xcallL at h
  split at h
  · rename_i f ar at'
    split at h
    · rename_i T hT
      obtain ⟨hc, h⟩ := andK_all _ _ h
      obtain ⟨⟨fn, co, h1, h2, h3⟩, h4⟩ := hX.L f T hT
      have hargs := xargs_ok ρ (ev t) ar.toList (fun x _ hc => st_none (xev_ok hR x) hc) hc
      have hR1 : Rel ⟨F.F, F.g, (S.s.map fun p => t p.1) ++ F.tg⟩ ρ S.into t L := ⟨fun i => by simp [XS.into, look, RV], hR.rw, hR.inj, hR.nx, hR.fr, hR.pin, gs_in hR.sl hR.gh S.s⟩
      have hj := h4 _ _ _ h _ ρ t L _ hR1 hargs
      have := JO.call (P := P) (N := N) (ops := ops) (Q := Q) (ty := ty) (pos := pos) (af := af) (os := os) (t := t) (L := L) (d := d) (xs := ar.toList) (tys := at') h1 h2 h3 hd hj fun v L' ⟨ρ', S', t', xv, k1, k2, k3⟩ => by
        obtain ⟨g1, g2⟩ := gs_out (t := t) (tg := F.tg) S.s S'.gs k1.gh
        have hR2 : Rel F ρ' (S.back S') t L' := ⟨g1, k1.rw, k1.inj, k1.nx, k1.fr, k1.pin, g2⟩
        exact hK xv ρ' (S.back S') _ L' k3 (hR2.put d k2)
      simpa using this
    · exact h.elim
  · exact h.elim
theorem JO.retell {t t' : TM} {L L' : GH} (hd : ∀ b, L b = none → L' b = none)
    (hv : ∀ w, (∀ g r, L g = some r → RowR L w g r) → (∀ g r, L' g = some r → RowR L' w g r) ∧ ∀ i x, VS L w (t i) x → VS L' w (t' i) x) (h : JO P N ops Q os t' L') : JO P N ops Q os t L := by
  intro L0 w0 a w he hs
  have hx := Ext.drop w hd
  obtain ⟨h1, h2⟩ := hv w hs.rows
  exact h L0 w0 a w (he.trans hx) ⟨fun i => h2 i _ (hs.tm i), h1, hs.size, hs.df.1, hs.df.2.ext hx⟩
/-- A slice of one's own that is only read from now on. -/
theorem xfrzO_ok {d : Nat} {cs : List Prop} (h : xfrz S d = some (cs, S')) (hc : ∀ p ∈ cs, p) (hR : Rel F ρ S t L) (K : ∀ ρ' t' L', Rel F ρ' S' t' L' → JO P N ops Q os t' L') : JO P N ops Q os t L := by
  unfold xfrz at h
  split at h
  · rename_i id sz n hl
    split at h
    · rename_i e n' sz' f hq
      split at h
      · rename_i hs
        rw [beqN, decide_eq_true_eq] at hs
        subst hs
        simp only [Option.some.injEq, Prod.mk.injEq] at h
        obtain ⟨rfl, rfl⟩ := h
        have hn : n = n' := all1 hc
        subst hn
        have hsl := hR.sl d
        rw [hl] at hsl
        simp only [RV] at hsl
        have hlt : ∀ o, ρ id = some o → id < S.nx := by
          intro o ho
          rcases Nat.lt_or_ge id S.nx with h | h
          · exact h
          · rw [hR.nx id h] at ho; cases ho
        have go : ∀ (L0 : GH) (og : Option Nat) (row : Row), L = updo L0 og row → row.cs = vecOf n sz (fun i => toAVL (f i)) → Fre L0 og → ρ id = some og → t d = hv og sz n → (og = none → row.cs = [] ∧ n = 0) → JO P N ops Q os t L := by
          intro L0 og row hL hcs hF hid ht hnil
          subst hL
          refine JO.freeze d hF ht hnil (by rw [hcs, vecOf_length]) ?_
          rw [hcs]
          -- what is left is told of no block that is this one
          have fi : ∀ i, findR (dropH id (delR S.h id)) i = if i = id then none else (findR S.h i).map (dropRow id) := by
            intro i
            rw [findR_drop, findR_del]
            by_cases hi : i = id
            · rw [if_pos hi, if_pos hi]; rfl
            · rw [if_neg hi, if_neg hi]
          have old : ∀ i g row', i ≠ id → (findR S.h i).isSome = true → ρ i = some (some g) → updo L0 og row g = some row' → L0 g = some row' := by
            intro i g row' hi hs e1 e2
            cases og with
            | none => exact e2
            | some g0 =>
              have hne : g ≠ g0 := by
                rintro rfl
                exact hi (hR.inj i id _ hs (by rw [hq]; rfl) e1 hid)
              simpa [updo, upd_ne _ _ _ _ hne] using e2
          refine K (ρ.set id none) _ _ ⟨fun i => ?_, fun i q hf => ?_, fun i j g hi hj e1 e2 => ?_, fun i hi => ?_, fun b q hb => ?_, fun hp => ?_, dropC_ok hR.gh⟩
          · show RV _ (look ((d, .fz n sz f) :: dropS id S.s) i) _
            rw [look_put]
            by_cases hi : i = d
            · rw [if_pos hi, hi, TM.put_same]
              simp only [RV, toAV]
            · rw [if_neg hi, TM.put_ne _ _ _ _ hi, look_drop]
              exact RV.drop (hR.sl i)
          · simp only at hf
            rw [fi] at hf
            by_cases hi : i = id
            · rw [if_pos hi] at hf; cases hf
            · rw [if_neg hi] at hf
              cases hf2 : findR S.h i with
              | none => rw [hf2] at hf; cases hf
              | some p =>
                rw [hf2] at hf
                obtain rfl := Option.some.inj hf
                rcases hR.rw i p hf2 with ⟨g', row', h1, h2, h3⟩ | ⟨h1, e, sz, f, rfl⟩
                · exact .inl ⟨g', row', by rw [set_ne _ _ hi]; exact h1, old i g' row' hi (by rw [hf2]; rfl) h1 h2, h3.drop⟩
                · exact .inr ⟨by rw [set_ne _ _ hi]; exact h1, e, sz, f, rfl⟩
          · simp only at hi hj
            rw [fi] at hi hj
            by_cases a1 : i = id
            · rw [if_pos a1] at hi; cases hi
            · by_cases a2 : j = id
              · rw [if_pos a2] at hj; cases hj
              · rw [if_neg a1] at hi
                rw [if_neg a2] at hj
                rw [set_ne _ _ a1] at e1
                rw [set_ne _ _ a2] at e2
                exact hR.inj i j g (by simpa using hi) (by simpa using hj) e1 e2
          · simp only at hi
            have := hlt og hid
            rw [set_ne _ _ (by omega)]
            exact hR.nx i hi
          · obtain ⟨h1, h2⟩ := hR.fr b q hb
            have h3 : L0 b = some q := by
              cases og with
              | none => exact h1
              | some g0 =>
                have hne : b ≠ g0 := by rintro rfl; exact h2 id (by rw [hq]; rfl) hid
                simpa [updo, upd_ne _ _ _ _ hne] using h1
            refine ⟨h3, fun i hi => ?_⟩
            simp only at hi
            rw [fi] at hi
            by_cases a1 : i = id
            · rw [if_pos a1] at hi; cases hi
            · rw [if_neg a1] at hi
              rw [set_ne _ _ a1]
              exact h2 i (by simpa using hi)
          · obtain ⟨p1, p2, e', ap', cs', p3⟩ := hR.pin hp
            have hne : 0 ≠ id := by
              rintro rfl
              rw [hq] at p3; cases p3
            refine ⟨by rw [set_ne _ _ hne]; exact p1, p2, e', ap', dropC id cs', ?_⟩
            show findR (dropH id (delR S.h id)) 0 = _
            rw [fi, if_neg hne, p3]
            rfl
        rcases hsl with ⟨g0, hid, ht⟩ | ⟨hid, hn0, -, ht⟩
        · obtain ⟨row, hL, hrow⟩ := (hR.rw id _ hq).some_g hid
          simp only [RRow] at hrow
          refine go (del L g0) (some g0) row ?_ (by rw [hrow]) (fun g' h => by obtain rfl := Option.some.inj h; simp [del]) hid (by rw [ht]; simp [hv]) (fun h => by cases h)
          funext b'
          simp only [updo, upd, del]
          split
          · rename_i hb'; rw [hb', hL]
          · rfl
        · exact go L none ⟨0, true, vecOf n sz fun i => toAVL (f i)⟩ rfl rfl (fun g' h => by cases h) hid (by rw [ht]; rfl) (fun _ => ⟨by rw [hn0]; simp [vecOf], hn0⟩)
      · cases h
    · cases h
  · rename_i hl
    simp only [Option.some.injEq, Prod.mk.injEq] at h
    obtain ⟨-, rfl⟩ := h
    have hsl := hR.sl d
    rw [hl] at hsl
    simp only [RV] at hsl
    refine JO.retell (t' := t.putO (some d) (.fz 0 (vecOf 0 1 fun _ => toAVL [.v (.p (.string ⟨#[]⟩))]))) (L' := L) (fun b hb => hb) (fun w hw => ⟨hw, fun i x hx => ?_⟩) (K ρ _ L (Rel.put hR (some d) (by simp only [RV, toAV])))
    show VS L w ((t.put d (.fz 0 (vecOf 0 1 fun _ => toAVL [.v (.p (.string ⟨#[]⟩))]))) i) x
    unfold TM.put
    split
    · rename_i hi
      rw [hi, hsl] at hx
      simp only [VS] at hx ⊢
      subst hx
      exact ⟨none, 0, [], rfl, Nat.le_refl _, .inl rfl, by simp [vecOf, VSL]⟩
    · exact hx
  · simp only [Option.some.injEq, Prod.mk.injEq] at h
    obtain ⟨-, rfl⟩ := h
    exact K ρ t L hR
  · cases h
theorem frzArgs_ok {P : Program} {N : Nat} {ops : Array Oper} {Q : Exit → TM → GH → Prop} {os : List Oper} {F : Fr} : ∀ (l : List Operand) (S : XS) (cs : List Prop) (S' : XS) (ρ : Rho) (t : TM) (L : GH), frzArgs l S = some (cs, S') → (∀ p ∈ cs, p) → Rel F ρ S t L → (∀ ρ' t' L', Rel F ρ' S' t' L' → JO P N ops Q os t' L') → JO P N ops Q os t L
  | [], S, cs, S', ρ, t, L, h, hc, hR, K => by
    simp only [frzArgs, Option.some.injEq, Prod.mk.injEq] at h
    obtain ⟨rfl, rfl⟩ := h
    exact K ρ t L hR
  | x :: l, S, cs, S', ρ, t, L, h, hc, hR, K => by
    unfold frzArgs at h
    split at h
    · rename_i he
      cases he
    · rename_i d l' S0 he
      cases he
      split at h
      · split at h
        · rename_i cs1 S1 h1
          split at h
          · rename_i cs2 S2 h2
            simp only [Option.some.injEq, Prod.mk.injEq] at h
            obtain ⟨rfl, rfl⟩ := h
            exact xfrzO_ok h1 (allL hc) hR fun ρ' t' L' hR' => frzArgs_ok l S1 cs2 S2 ρ' t' L' h2 (allR hc) hR' K
          · cases h
        · cases h
      · exact frzArgs_ok l _ cs S' ρ t L h hc hR K
    · rename_i x' l' S0 _ he
      cases he
      exact frzArgs_ok l _ cs S' ρ t L h hc hR K
theorem callA_ok {P : Program} {N : Nat} {ops : Array Oper} {Q : Exit → TM → GH → Prop} {os : List Oper} {F : Fr} {op : Op} {S S' : XS} {ρ : Rho} {t : TM} {L : GH} {X : Cx} {cs : List Prop} (h : callA X S op = some (cs, S')) (hc : ∀ p ∈ cs, p) (hR : Rel F ρ S t L) (K : ∀ ρ' t' L', Rel F ρ' S' t' L' → JO P N ops Q os t' L') : JO P N ops Q os t L := by
  unfold callA at h
  split at h
  · split at h
    · exact frzArgs_ok _ _ _ _ _ _ _ h hc hR K
    · cases h
  · cases h
/-- A region's operations, in the text's order. -/
theorem xgo_ok {X : Cx} (hX : X.ok P) : ∀ (os : List Oper) (S : XS) (G : List (Nat × Bool)) (K : XS → Prop) (ρ : Rho) (t : TM) (L : GH), xgo X N ops.toList os S G K → Rel F ρ S t L → GA ops.toList S.s G →
    (∀ ρ' S' t' L', Rel F ρ' S' t' L' → K S' → Q .normal t' L') → JO P N ops Q os t L
  | [], S, G, K, ρ, t, L, h, hR, _, hK => JO.nil (hK ρ S t L hR h)
  | ⟨d, op, ty, pos, af, gd⟩ :: os, S, G, K, ρ, t, L, h, hR, hG, hK => by
    unfold xgo at h
    split at h
    · exact h.elim
    · rename_i hd0
      have hd := xdok_eq hd0
      simp only at h
      cases gd with
      | none =>
        simp only at h
        split at h
        · rename_i cs v w hs
          split at h
          · rename_i hwd
            obtain ⟨hc, h⟩ := andK_all _ _ h
            unfold xstep at hs
            obtain ⟨v', W, hv, hw, hj⟩ := xop_ok (P := P) (N := N) (ops := ops) (d := d) (ty := ty) (pos := pos) (af := af) (rows := rowsOf ρ L) (val := ev t) hX (fun x _ hc => st_okO hR hG (fun k g h => by cases h) hc)
              (fun c a b hop tb hc hv => pick_ok hR hG (fun k g h => by cases h) c a b hop tb hc hv) (fun id _ r hf g hg => RRow.rows (L := L) hR.rw (rowsOf_ok hR) id r hf g hg) hs hc hd (fun T x y e => by
                subst e
                cases d with
                | none => rfl
                | some d => cases hwd)
            refine hj t L (fun _ _ => rfl) (fun id _ g hg hf => rowsOf_ok hR id g hg hf) Q os ?_
            have hR2 := hR.step d hv hw (fun id r e => by subst e; exact ⟨(xop_wr hs).1, (xop_wr hs).2.2⟩)
            refine xgo_ok hX os _ _ K ρ _ _ h hR2 ?_ hK
            rw [wr_s, put_s]
            cases d with
            | none => exact hG
            | some d =>
              refine hG.put fun c k x e g hk => ?_
              subst e
              cases op <;> cases hwd
          · exact h.elim
        · split at h
          · rename_i cs v S' hn
            obtain ⟨hc, h⟩ := andK_all _ _ h
            exact xnew_ok hX hn hc hR hd fun ρ' t' L' hR' => xgo_ok hX os _ _ K ρ' t' L' h hR' (GA.nil _ _) hK
          · split at h
            · rename_i cs0 S1 hA
              split at h
              · rename_i cs v hs
                split at h
                · rename_i hwd
                  obtain ⟨hc0, h⟩ := andK_all _ _ h
                  obtain ⟨hc, h⟩ := andK_all _ _ h
                  refine callA_ok hA hc0 hR fun ρ1 t1 L1 hR1 => ?_
                  unfold xstep at hs
                  have hG1 : GA ops.toList S1.s [] := GA.nil _ _
                  obtain ⟨v', W, hv, hw, hj⟩ := xop_ok (P := P) (N := N) (ops := ops) (d := d) (ty := ty) (pos := pos) (af := af) (rows := rowsOf ρ1 L1) (val := ev t1) hX (fun x _ hc => st_okO hR1 hG1 (fun k g h => by cases h) hc)
                    (fun c a b hop tb hc hv => pick_ok hR1 hG1 (fun k g h => by cases h) c a b hop tb hc hv) (fun id _ r hf g hg => RRow.rows (L := L1) hR1.rw (rowsOf_ok hR1) id r hf g hg) hs hc hd (fun T x y e => by
                      subst e
                      cases d with
                      | none => rfl
                      | some d => cases hwd)
                  cases W with
                  | some W => exact hw.elim
                  | none =>
                    refine hj t1 L1 (fun _ _ => rfl) (fun id _ g hg hf => rowsOf_ok hR1 id g hg hf) Q os ?_
                    exact xgo_ok hX os _ _ K ρ1 _ _ h (hR1.put d hv) (GA.nil _ _) hK
                · exact h.elim
              · exact h.elim
            · exact xcallL_ok hX h hR hd fun v ρ' S' t' L' h hR' => xgo_ok hX os _ _ K ρ' t' L' h hR' (GA.nil _ _) hK
      | some gd =>
        obtain ⟨j, b⟩ := gd
        simp only at h
        split at h
        · rename_i g k G' d hg
          obtain ⟨hgo, hG', hgk⟩ := xguard_ok hG hg
          split at h
          · rename_i cs v hs
            obtain ⟨hc, h⟩ := andK_all _ _ h
            unfold xstep at hs
            have hput : ∀ b, RV ρ (.gd g k v) b → JO P N ops Q os (t.put d b) L := fun b hb =>
              xgo_ok hX os _ _ K ρ _ _ h (hR.put (some d) hb) (hG'.put fun c k' x e g' hk => by
                injection e with e1 e2 e3
                subst e1
                exact (hgk k' e2 g' hk).symm) hK
            refine guard_ok (S := S) (fun _ s _ _ => hR.sl s) hgo hd (fun hg1 => ?_) (fun hg0 => hput _ (by simp only [RV]; exact ⟨fun h => (by rw [hg0] at h; cases h), fun _ => trivial⟩))
            have hkk : ∀ k1 g1, k = some k1 → fnd G' k1 = some g1 → g1 = true := fun k1 g1 e1 e2 => by rw [hgk k1 e1 g1 (fnd_mem _ _ _ e2)]; exact hg1
            obtain ⟨v', W, hv, hw, hj⟩ := xop_ok (P := P) (N := N) (ops := ops) (d := some d) (ty := ty) (pos := pos) (af := af) (rows := rowsOf ρ L) (val := ev t) hX (fun x _ hc => st_okO hR hG' hkk hc)
              (fun c a b hop tb hc hv => pick_ok hR hG' hkk c a b hop tb hc hv) (fun id _ r hf g hg => RRow.rows (L := L) hR.rw (rowsOf_ok hR) id r hf g hg) hs (fun p hp => hc _ (List.mem_map_of_mem hp) hg1) hd (fun T x y e => by subst e; exact absurd rfl (store_wr hs))
            cases W with
            | some W => exact hw.elim
            | none => exact hj t L (fun _ _ => rfl) (fun id _ g hg hf => rowsOf_ok hR id g hg hf) Q os (hput v' (by simp only [RV]; exact ⟨fun _ => hv, fun h => (by rw [hg1] at h; cases h)⟩))
          · exact h.elim
        · exact h.elim
/-! Regions where each test parts the ways -/
/-- What is decided is so. -/
def DA (s : List (Nat × XV)) (D : DT) : Prop := ∀ d g, fnd D d = some g → look s d = match g with
  | some b => .v (.p (.bool b))
  | none => .v (.p undef)
theorem DA.nil (s : List (Nat × XV)) : DA s [] := fun d g h => by cases h
theorem fnd_dropD (d : Nat) : ∀ (D : DT) (i : Nat), fnd (dropD d D) i = if i = d then none else fnd D i
  | [], i => by simp [dropD, fnd]
  | (k, g) :: D, i => by
    simp only [dropD, beqN]
    by_cases hk : k = d
    · rw [decide_eq_true hk, cond_true, fnd_dropD d D i]
      by_cases hi : i = d
      · rw [if_pos hi, if_pos hi]
      · rw [if_neg hi, if_neg hi]
        simp only [fnd, beqN]
        rw [decide_eq_false (by omega), cond_false]
    · rw [decide_eq_false hk, cond_false]
      simp only [fnd, beqN]
      by_cases hi : i = k
      · rw [decide_eq_true hi, cond_true, cond_true, if_neg (by omega)]
      · rw [decide_eq_false hi, cond_false, cond_false, fnd_dropD d D i]
theorem DA.put {s : List (Nat × XV)} {D : DT} (h : DA s D) (d : Nat) (v : XV) : DA ((d, v) :: s) (dropD d D) := by
  intro i g hi
  rw [fnd_dropD] at hi
  by_cases hd : i = d
  · rw [if_pos hd] at hi; cases hi
  · rw [if_neg hd] at hi
    rw [look_put, if_neg hd]
    exact h i g hi
theorem DA.add {s : List (Nat × XV)} {D : DT} (h : DA s D) (d : Nat) (g : Option Bool) (v : XV) (hv : v = match g with | some b => .v (.p (.bool b)) | none => .v (.p undef)) : DA ((d, v) :: s) ((d, g) :: dropD d D) := by
  intro i g' hi
  simp only [fnd, beqN] at hi
  by_cases hd : i = d
  · rw [decide_eq_true hd, cond_true] at hi
    obtain rfl := Option.some.inj hi
    rw [look_put, if_pos hd]
    exact hv
  · rw [decide_eq_false hd, cond_false, fnd_dropD, if_neg hd] at hi
    rw [look_put, if_neg hd]
    exact h i g' hi
theorem JO.offN {j s : Nat} {b : Bool} {pos : String} (hs : s < N) (hj : (ops[j]?).bind (·.dst) = some s) (ht : t s = .p undef ∨ ∃ c, t s = .p (.bool c) ∧ (c == b) = false) (h : JO P N ops Q os t L) :
    JO P N ops Q (⟨none, op, ty, pos, af, some (j, b)⟩ :: os) t L := by
  intro L0 w0 a w he sm
  have hv := sm.tm s
  have hsz : s < a.tmps.size := by rw [sm.size]; exact hs
  have hw : Region.wanted ⟨none, op, ty, pos, af, some (j, b)⟩ (yielded ops a.tmps) = false := by
    rcases ht with ht | ⟨c, ht, hc⟩
    · rw [ht] at hv
      simp only [VS] at hv
      have h2 : a.tmps[s]? = some undef := by
        rw [Array.getD_eq_getD_getElem?, Array.getElem?_eq_getElem hsz] at hv
        rw [Array.getElem?_eq_getElem hsz]
        simpa using hv
      simp [Region.wanted, yielded, hj, h2, undef]
    · rw [ht] at hv
      simp only [VS] at hv
      have h2 : a.tmps[s]? = some (.bool c) := by
        rw [Array.getD_eq_getD_getElem?, Array.getElem?_eq_getElem hsz] at hv
        rw [Array.getElem?_eq_getElem hsz]
        simpa using hv
      simp [Region.wanted, yielded, hj, h2, hc]
  unfold wpList
  rw [if_neg (by rw [hw]; simp)]
  exact h L0 w0 a w he sm
theorem xrun1_ok {X : Cx} (hX : X.ok P) {D : DT} {K : XS → DT → Prop} (h : xrun1 X ops.toList S D ⟨d, op, ty, pos, af, none⟩ K) (hR : Rel F ρ S t L) (hD : DA S.s D) (hd : dok N d = true)
    (hK : ∀ ρ' S' t' L' D', K S' D' → Rel F ρ' S' t' L' → DA S'.s D' → JO P N ops Q os t' L') : JO P N ops Q (⟨d, op, ty, pos, af, none⟩ :: os) t L := by
  unfold xrun1 at h
  have dput : ∀ v, DA (S.put d v).s (dropDo d D) := by
    intro v
    cases d with
    | none => exact hD
    | some d => exact hD.put d v
  split at h
  · rename_i x hx
    simp only at h
    split at h
    · obtain ⟨hc, h⟩ := andK_all _ _ h
      have hv := st_none (xev_ok hR x) hc
      simp only at hx
      unfold dpick at hx
      have go : ∀ (s : Nat) (a b : Operand) (c : Bool), op = .pick (.tmp s) a b → fnd D s = some (some c) → x = (if c then a else b) → JO P N ops Q (⟨d, op, ty, pos, af, none⟩ :: os) t L := by
        intro s a b c hop hf hxx
        have hs := hR.sl s
        rw [hD s _ hf] at hs
        simp only [RV] at hs
        subst hop
        refine JO.pure (v := ev t x) ?_ hd (hK _ _ _ _ _ h (hR.put d hv) (dput _))
        have he : ev t (.tmp s) = .p (.bool c) := hs
        simp only [YtghmlhdlkgjbeaaDoorAv.fv, he]
        cases c <;> simp [hxx]
      split at hx
      · rename_i s a b
        split at hx
        · rename_i hf
          obtain rfl := Option.some.inj hx
          exact go s _ b true rfl hf rfl
        · rename_i hf
          obtain rfl := Option.some.inj hx
          exact go s a _ false rfl hf rfl
        · cases hx
      · cases hx
    · exact h.elim
  · split at h
    · rename_i cs v w hs
      split at h
      · rename_i hwd
        obtain ⟨hc, h⟩ := andK_all _ _ h
        unfold xstep at hs
        have hG := GA.nil ops.toList S.s
        obtain ⟨v', W, hv, hw, hj⟩ := xop_ok (P := P) (N := N) (ops := ops) (d := d) (ty := ty) (pos := pos) (af := af) (rows := rowsOf ρ L) (val := ev t) hX (fun x _ hc => st_okO hR hG (fun k g h => by cases h) hc)
          (fun c a b hop tb hc hv => pick_ok hR hG (fun k g h => by cases h) c a b hop tb hc hv) (fun id _ r hf g hg => RRow.rows (L := L) hR.rw (rowsOf_ok hR) id r hf g hg) hs hc hd (fun T x y e => by
            subst e
            cases d with
            | none => rfl
            | some d => cases hwd)
        refine hj t L (fun _ _ => rfl) (fun id _ g hg hf => rowsOf_ok hR id g hg hf) Q os ?_
        have hR2 := hR.step d hv hw (fun id r e => by subst e; exact ⟨(xop_wr hs).1, (xop_wr hs).2.2⟩)
        exact hK _ _ _ _ _ h hR2 (by rw [wr_s]; exact dput v)
      · exact h.elim
    · split at h
      · rename_i cs v S' hn
        obtain ⟨hc, h⟩ := andK_all _ _ h
        exact xnew_ok hX hn hc hR hd fun ρ' t' L' hR' => hK _ _ _ _ _ h hR' (DA.nil _)
      · exact xcallL_ok hX h hR hd fun v ρ' S' t' L' h hR' => hK _ _ _ _ _ h hR' (DA.nil _)
theorem xoff_ok {D : DT} {K : XS → DT → Prop} {j s : Nat} {b : Bool} (h : xoff S D ⟨d, op, ty, pos, af, some (j, b)⟩ K) (hR : Rel F ρ S t L) (hD : DA S.s D) (hd : dok N d = true) (hs : s < N) (hj : (ops[j]?).bind (·.dst) = some s)
    (ht : t s = .p undef ∨ ∃ c, t s = .p (.bool c) ∧ (c == b) = false)
    (hK : ∀ ρ' S' t' L' D', K S' D' → Rel F ρ' S' t' L' → DA S'.s D' → JO P N ops Q os t' L') : JO P N ops Q (⟨d, op, ty, pos, af, some (j, b)⟩ :: os) t L := by
  cases d with
  | none => exact JO.offN hs hj ht (hK _ _ _ _ _ h hR hD)
  | some d =>
    have hdN : d < N := dok_lt hd d rfl
    have k := hK _ _ _ _ _ h (hR.put (some d) (v := .v (.p undef)) (b := .p undef) (by simp [RV])) (hD.add d none _ rfl)
    rcases ht with ht | ⟨c, ht, hc⟩
    · exact JO.offU hdN hs hj ht k
    · exact JO.off hdN hs hj ht hc k
theorem xgf_ok {X : Cx} (hX : X.ok P) {m : Bool} : ∀ (os : List Oper) (S : XS) (D : DT) (K : XS → Prop) (ρ : Rho) (t : TM) (L : GH), xgf X N ops.toList m os S D K → Rel F ρ S t L → DA S.s D →
    (∀ ρ' S' t' L', Rel F ρ' S' t' L' → K S' → Q .normal t' L') → JO P N ops Q os t L
  | [], S, D, K, ρ, t, L, h, hR, _, hK => JO.nil (hK ρ S t L hR h)
  | ⟨d, op, ty, pos, af, gd⟩ :: os, S, D, K, ρ, t, L, h, hR, hD, hK => by
    unfold xgf at h
    split at h
    · exact h.elim
    · rename_i hd0
      have hd := xdok_eq hd0
      have next : ∀ ρ' S' t' L' D', xgf X N ops.toList m os S' D' K → Rel F ρ' S' t' L' → DA S'.s D' → JO P N ops Q os t' L' := fun ρ' S' t' L' D' h hR hD => xgf_ok hX os S' D' K ρ' t' L' h hR hD hK
      simp only at h
      cases gd with
      | none => exact xrun1_ok hX h hR hD hd next
      | some gd =>
        obtain ⟨j, b⟩ := gd
        simp only at h
        split at h
        · exact h.elim
        · rename_i s hsl
          have hj : (ops[j]?).bind (·.dst) = some s := by
            unfold slotOf at hsl
            split at hsl
            · rename_i hn; exact nth_bind hn hsl
            · cases hsl
          split at h
          · exact h.elim
          · rename_i hs0 hf
            rw [bltN, decide_eq_true_eq] at hs0
            have hs := hR.sl s
            rw [hD s _ hf] at hs
            simp only [RV] at hs
            exact xoff_ok h hR hD hd hs0 hj (.inl hs) next
          · rename_i c hs0 hf
            rw [bltN, decide_eq_true_eq] at hs0
            have hs := hR.sl s
            rw [hD s _ hf] at hs
            simp only [RV] at hs
            split at h
            · rename_i he
              exact JO.on hs0 hj hs (by revert he; cases c <;> cases b <;> decide) (xrun1_ok hX h hR hD hd next)
            · rename_i he
              exact xoff_ok h hR hD hd hs0 hj (.inr ⟨c, hs, by revert he; cases c <;> cases b <;> decide⟩) next
          · rename_i hs0 hf
            rw [bltN, decide_eq_true_eq] at hs0
            split at h
            · rename_i c hl
              have hs := hR.sl s
              rw [hl] at hs
              simp only [RV] at hs
              have put' : ∀ c', c = c' → Rel F ρ (S.put (some s) (.v (.p (.bool c')))) t L := by
                rintro c' rfl
                have := hR.put (some s) (v := .v (.p (.bool c))) (b := .p (.bool c)) (by simp [RV])
                have e : t.putO (some s) (.p (.bool c)) = t := by
                  funext i
                  simp only [TM.putO, TM.put]
                  split
                  · rename_i hi; rw [hi, hs]
                  · rfl
                rw [e] at this
                exact this
              split at h
              · split at h
                · split at h
                  · exact JO.on hs0 hj hs rfl (xrun1_ok hX h (put' _ rfl) (hD.add s (some true) _ rfl) hd next)
                  · exact xoff_ok h (put' _ rfl) (hD.add s (some true) _ rfl) hd hs0 hj (.inr ⟨_, hs, rfl⟩) next
                · split at h
                  · exact xoff_ok h (put' _ rfl) (hD.add s (some false) _ rfl) hd hs0 hj (.inr ⟨_, hs, rfl⟩) next
                  · exact JO.on hs0 hj hs rfl (xrun1_ok hX h (put' _ rfl) (hD.add s (some false) _ rfl) hd next)
              obtain ⟨h1, h2⟩ := h
              by_cases hcb : c = b
              · have hR' : Rel F ρ (S.put (some s) (.v (.p (.bool b)))) t L := by
                  have := hR.put (some s) (v := .v (.p (.bool b))) (b := .p (.bool b)) (by simp [RV])
                  have e : t.putO (some s) (.p (.bool b)) = t := by
                    funext i
                    simp only [TM.putO, TM.put]
                    split
                    · rename_i hi; rw [hi, hs, hcb]
                    · rfl
                  rw [e] at this
                  exact this
                exact JO.on hs0 hj hs (by rw [hcb]; simp) (xrun1_ok hX (h1 hcb) hR' (hD.add s (some b) _ rfl) hd next)
              · have hcb' : c = !b := by cases c <;> cases b <;> simp_all
                have hR' : Rel F ρ (S.put (some s) (.v (.p (.bool (!b))))) t L := by
                  have := hR.put (some s) (v := .v (.p (.bool (!b)))) (b := .p (.bool (!b))) (by simp [RV])
                  have e : t.putO (some s) (.p (.bool (!b))) = t := by
                    funext i
                    simp only [TM.putO, TM.put]
                    split
                    · rename_i hi; rw [hi, hs, hcb']
                    · rfl
                  rw [e] at this
                  exact this
                exact xoff_ok (h2 hcb') hR' (hD.add s (some (!b)) _ rfl) hd hs0 hj (.inr ⟨c, hs, by rw [hcb']; cases b <;> rfl⟩) next
            · exact h.elim
end
end Go.Proofs.YtghmlhdlkgjbeaaDoorAv
set_option linter.unusedVariables false
set_option linter.unusedSimpArgs false
namespace Go.Proofs.YtghmlhdlkgjbeaaDoorAv
open Go Go.RowKit
section
variable {P : Program} {N : Nat} {ops : Array Oper} {Q : Exit → TM → GH → Prop} {d : Option Nat} {ty : TypeId} {pos : String} {af : Array Edge} {op : Op} {ρ : Rho} {F : Fr} {S S' : XS} {t : TM} {L : GH} {v : XV} {os : List Oper}
/-- A region whose order is drawn; blocks by any numbers. -/
theorem J.drawT {id : Nat} {l : List Oper} (tb : Nat → Nat) (ann : List (List Nat × Option Nat)) (hm : P.follows .mixedOrders = true) (hB : ordB l.toArray ann = true)
    (hN : (l.all fun o => dok N o.dst) = true) (hal : ann.length = l.length) (hinj : ∀ k x y, x ∈ (ann.getD k ([], none)).1 ∨ (ann.getD k ([], none)).2 = some x → ∀ j, (y ∈ (ann.getD j ([], none)).1 ∨ (ann.getD j ([], none)).2 = some y) → tb x = tb y → x = y)
    (hdom : ∀ k x, (ann.getD k ([], none)).2 = some x → (L (tb x)).isSome = true) (h : JD P N l.toArray tb L l ann t L (fun t' L' => Q .normal t' L')) : J P N (.region id l.toArray true) Q t L := by
  intro L0 w0 a w he hs
  obtain ⟨V, W, h1, h2, h3, h4⟩ := JD_spec (ops := l.toArray) (ann := ann) (t := t) (L := L) l 0 (fun _ => .top) (fun _ => none) (fun j => by simp) h
  simp only [Nat.zero_add] at h1 h2 h3 h4
  have hWall : ∀ k, (W k).map (·.1) = (ann.getD k ([], none)).2.map tb := by
    intro k
    by_cases hk : k < l.length
    · exact h2 k (Nat.zero_le _) hk
    · have e := (h1 k (.inr (by omega))).2
      rw [e]
      rw [List.getD_eq_getElem?_getD, List.getElem?_eq_none (by omega)]
      rfl
  refine wp_region_any hm ?_
  have hz : ∀ j, (Array.replicate l.toArray.size false).getD j false = false := by
    intro j
    rw [Array.getD_eq_getD_getElem?, Array.getElem?_replicate]
    split <;> rfl
  have e1 : refT l.toArray V t (fun j => (Array.replicate l.toArray.size false).getD j false) l.toArray.size = t := by
    have : ∀ k, refT l.toArray V t (fun j => (Array.replicate l.toArray.size false).getD j false) k = t := by
      intro k
      induction k with
      | zero => rfl
      | succ k ih => rw [refT, if_neg (by rw [hz]; simp)]; exact ih
    rw [this]
  have e2 : refL W L (fun j => (Array.replicate l.toArray.size false).getD j false) l.toArray.size = L := by
    have : ∀ k, refL W L (fun j => (Array.replicate l.toArray.size false).getD j false) k = L := by
      intro k
      induction k with
      | zero => rfl
      | succ k ih => rw [refL, if_neg (by rw [hz]; simp)]; exact ih
    rw [this]
  have hx : Ext L w L { w with drawn := w.drawn + 1 } := ⟨rfl, rfl, rfl, Nat.le_refl _, fun _ _ _ => rfl, fun _ _ h => h, fun _ c e fr h => ⟨c, e, fr, h, rfl⟩⟩
  refine draw_any (V := V) (W := W) (t := t) (L := L) hB hinj ?_ hWall ?_ (fun k o ho L' hd hr _ => h3 k o (Nat.zero_le _) ho L' hd hr) (by simpa using h4) _ _ a _ (by simp) ?_ ?_ ?_ ?_
  · intro k o d ho hd
    have hmem : o ∈ l := List.mem_of_getElem? (by simpa using ho)
    have := List.all_eq_true.1 hN o hmem
    rw [hd] at this
    simpa [dok] using this
  · intro k g r hw
    have := hWall k
    rw [hw] at this
    cases hy : (ann.getD k ([], none)).2 with
    | none => rw [hy] at this; cases this
    | some y =>
      rw [hy] at this
      have hg : g = tb y := Option.some.inj this
      rw [hg]
      exact hdom k y hy
  · intro j oj _ hl
    rw [hz j] at hl
    cases hl
  · have : left l.toArray.size (Array.replicate l.toArray.size false) ≤ (List.range l.toArray.size).length := List.length_filter_le _ _
    simpa using this
  · rw [e1, e2]; exact hs.ext hx (fun g r hg => (hs.rows g r hg).ext hx rfl)
  · rw [e2]; exact he.trans hx
theorem st_snd {G G' : List (Nat × Bool)} {k k' : Option Nat} (y : XV) : (y.st G k).2 = (y.st G' k').2 := by
  cases y with
  | gd c q x => simp only [XV.st]; split <;> split <;> rfl
  | _ => rfl
theorem touch_eq {G : List (Nat × Bool)} {k : Option Nat} (s : List (Nat × XV)) (op : Op) : touchX (fun x => (xev s x).st G k) op = touch s op := by
  cases op with
  | call c =>
    simp only [touchX, touch]
    cases c.args.toList with
    | nil => rfl
    | cons x l => simp only; rw [st_snd (G := G) (k := k) (G' := []) (k' := none)]
  | load T x => simp only [touchX, touch]; rw [st_snd (G := G) (k := k) (G' := []) (k' := none)]
  | store T x y => simp only [touchX, touch]; rw [st_snd (G := G) (k := k) (G' := []) (k' := none)]
  | slice T x _ _ _ => simp only [touchX, touch]; rw [st_snd (G := G) (k := k) (G' := []) (k' := none)]
  | convert S T x => simp only [touchX, touch]; rw [st_snd (G := G) (k := k) (G' := []) (k' := none)]
  | _ => rfl
theorem rst_ev {o : Oper} {x : Operand} (hx : x ∈ o.op.operands.toList) (t : TM) : ev (rst (o.looksAt ops) t) x = ev t x := by
  cases x with
  | tmp n =>
    simp only [ev]
    rw [rst_at, if_pos]
    simp only [Oper.looksAt, List.contains_eq_mem, List.mem_append, decide_eq_true_eq]
    exact .inl (List.mem_filterMap.2 ⟨.tmp n, hx, rfl⟩)
  | _ => rfl
theorem rst_guard {o : Oper} {j s : Nat} {b : Bool} {og : Oper} (hg : o.guard = some (j, b)) (hn : nth ops.toList j = some og) (hd : og.dst = some s) (t : TM) : (rst (o.looksAt ops) t) s = t s := by
  rw [rst_at, if_pos]
  simp only [Oper.looksAt, List.contains_eq_mem, List.mem_append, decide_eq_true_eq, hg]
  right
  rw [nth_bind hn hd]
  simp
def gOf : Option (Option Nat) → Nat
  | some (some g) => g
  | _ => 0
def bnd (ρ : Rho) : Nat → Nat
  | 0 => 1
  | n + 1 => bnd ρ n + gOf (ρ n)
theorem bnd_lt {ρ : Rho} {x g : Nat} (h : ρ x = some (some g)) : ∀ {n : Nat}, x < n → g < bnd ρ n
  | 0, hx => by omega
  | n + 1, hx => by
    simp only [bnd]
    have pos : ∀ n, 0 < bnd ρ n := by
      intro n
      induction n with
      | zero => simp [bnd]
      | succ n ih => simp only [bnd]; omega
    by_cases hn : x = n
    · subst hn
      rw [h]
      have := pos x
      simp only [gOf]
      omega
    · have := bnd_lt h (n := n) (by omega)
      omega
/-- A block's own number; of one that is not there: one that is no block's. -/
def tbOf (ρ : Rho) (n : Nat) : Nat → Nat := fun id => match ρ id with
  | some (some g) => g
  | _ => bnd ρ n + id
theorem tbOf_inj (hR : Rel F ρ S t L) {x y : Nat} (hx : (findR S.h x).isSome = true) (hy : (findR S.h y).isSome = true) (h : tbOf ρ S.nx x = tbOf ρ S.nx y) : x = y := by
  have dom : ∀ z, (findR S.h z).isSome = true → z < S.nx := by
    intro z hz
    rcases Nat.lt_or_ge z S.nx with hl | hl
    · exact hl
    · cases hf : findR S.h z with
      | none => rw [hf] at hz; cases hz
      | some r =>
        rcases hR.rw z r hf with ⟨g, row, h1, _⟩ | ⟨h1, _⟩ <;> rw [hR.nx z hl] at h1 <;> cases h1
  have hxn := dom x hx
  have hyn := dom y hy
  unfold tbOf at h
  split at h
  · rename_i g hg
    split at h
    · rename_i g' hg'
      subst h
      exact hR.inj x y _ hx hy hg hg'
    · have := bnd_lt hg hxn
      omega
  · split at h
    · rename_i g' hg'
      have := bnd_lt hg' hyn
      omega
    · omega
/-- An annotation names blocks that are told of. -/
def annOk (ρ : Rho) (h : List (Nat × XRow)) (a : List Nat × Option Nat) : Prop :=
  (∀ x, x ∈ a.1 ∨ a.2 = some x → (findR h x).isSome = true) ∧ ∀ x, a.2 = some x → ∃ g, ρ x = some (some g)
theorem wr_dom (S : XS) (w : Option (Nat × XRow)) (hw : ∀ id r, w = some (id, r) → (findR S.h id).isSome = true) (x : Nat) : (findR (S.wr w).h x).isSome = (findR S.h x).isSome := by
  cases w with
  | none => rfl
  | some w =>
    obtain ⟨id, r⟩ := w
    simp only [XS.wr]
    rw [findR_put, findR_del]
    by_cases hx : x = id
    · rw [if_pos hx, hx, hw id r rfl]; rfl
    · rw [if_neg hx, if_neg hx]
theorem put_h (S : XS) (d : Option Nat) (v : XV) : (S.put d v).h = S.h := by cases d <;> rfl
theorem thereB_mem {h : List (Nat × XRow)} : ∀ {l : List Nat} {x : Nat}, x ∈ thereB h l ↔ x ∈ l ∧ (findR h x).isSome = true
  | [], x => by simp [thereB]
  | id :: l, x => by
    simp only [thereB]
    split
    · rename_i r hr
      rw [List.mem_cons, thereB_mem, List.mem_cons]
      constructor
      · rintro (rfl | ⟨h1, h2⟩)
        · exact ⟨.inl rfl, by rw [hr]; rfl⟩
        · exact ⟨.inr h1, h2⟩
      · rintro ⟨rfl | h1, h2⟩
        · exact .inl rfl
        · exact .inr ⟨h1, h2⟩
    · rename_i hr
      rw [thereB_mem, List.mem_cons]
      constructor
      · rintro ⟨h1, h2⟩; exact ⟨.inr h1, h2⟩
      · rintro ⟨rfl | h1, h2⟩
        · rw [hr] at h2; cases h2
        · exact ⟨h1, h2⟩
theorem xdr_ok {X : Cx} (hX : X.ok P) {D : GH} (n : Nat) : ∀ (os : List Oper) (S : XS) (G : List (Nat × Bool)) (acc : List (List Nat × Option Nat)) (K : XS → List (List Nat × Option Nat) → Prop) (t : TM) (L : GH), xdr X N ops.toList os S G acc K → Rel F ρ S t L → GA ops.toList S.s G →
    ∃ ann S' t' L', ann.length = os.length ∧ JD P N ops (tbOf ρ n) D os ann t L (fun t2 L2 => t2 = t' ∧ L2 = L') ∧ Rel F ρ S' t' L' ∧ K S' (ann.reverse ++ acc) ∧ (∀ a ∈ ann, annOk ρ S.h a) ∧ (os.all fun o => dok N o.dst) = true
  | [], S, G, acc, K, t, L, h, hR, _ => ⟨[], S, t, L, rfl, ⟨rfl, rfl⟩, hR, h, by simp, rfl⟩
  | ⟨d, op, ty, pos, af, gd⟩ :: os, S, G, acc, K, t, L, h, hR, hG => by
    unfold xdr at h
    split at h
    · exact h.elim
    · rename_i hd0
      have hd := xdok_eq hd0
      simp only at h
      have tbg : ∀ id g, ρ id = some (some g) → tbOf ρ n id = g := fun id g hg => by simp [tbOf, hg]
      have annT : ∀ {X : Cx} {G : List (Nat × Bool)} {k : Option Nat} {eT eF : Operand → List Prop × XV} {cs : List Prop} {v : XV} {w : Option (Nat × XRow)} {W : Option (Nat × Row)}, xop X S.h (fun x => (xev S.s x).st G k) eT eF op = some (cs, v, w) → WRel ρ w W →
          annOk ρ S.h (thereB S.h (touch S.s op), w.map (·.1)) := by
        intro X G k eT eF cs v w W hs hw
        refine ⟨fun x hx => ?_, fun x hx => ?_⟩
        · rcases hx with hx | hx
          · exact (thereB_mem.1 hx).2
          · cases w with
            | none => cases hx
            | some w =>
              obtain ⟨id, r⟩ := w
              obtain rfl := Option.some.inj hx
              exact (xop_wr hs).1
        · cases w with
          | none => cases hx
          | some w =>
            cases W with
            | none => obtain ⟨a, b⟩ := w; exact hw.elim
            | some W =>
              obtain ⟨id, r⟩ := w
              obtain ⟨g, row⟩ := W
              obtain rfl := Option.some.inj hx
              exact ⟨g, hw.1⟩
      have wtb : ∀ {w : Option (Nat × XRow)} {W : Option (Nat × Row)}, WRel ρ w W → W.map (·.1) = (w.map (·.1)).map (tbOf ρ n) := by
        intro w W hw
        cases w with
        | none => cases W with
          | none => rfl
          | some W => exact hw.elim
        | some w => cases W with
          | none => obtain ⟨a, b⟩ := w; exact hw.elim
          | some W =>
            obtain ⟨id, r⟩ := w
            obtain ⟨g, row⟩ := W
            simp only [Option.map_some]
            rw [tbg id g hw.1]
      cases gd with
      | none =>
        simp only at h
        split at h
        · rename_i cs v w hs
          split at h
          · rename_i hwd
            obtain ⟨hc, h⟩ := andK_all _ _ h
            unfold xstep at hs
            obtain ⟨v', W, hv, hw, hj⟩ := xop_ok (P := P) (N := N) (ops := ops) (d := d) (ty := ty) (pos := pos) (af := af) (rows := rowsOf ρ L) (val := ev t) hX (fun x _ hc => st_okO hR hG (fun k g h => by cases h) hc)
              (fun c a b hop tb hc hv => pick_ok hR hG (fun k g h => by cases h) c a b hop tb hc hv) (fun id _ r hf g hg => RRow.rows (L := L) hR.rw (rowsOf_ok hR) id r hf g hg) hs hc hd (fun T x y e => by
                subst e
                cases d with
                | none => rfl
                | some d => cases hwd)
            have hid : ∀ id r, w = some (id, r) → (findR S.h id).isSome = true ∧ ∀ e ap cs, findR S.h id = some (.one e ap cs) → ∃ e' ap' cs', r = .one e' ap' cs' := fun id r e => by subst e; exact ⟨(xop_wr hs).1, (xop_wr hs).2.2⟩
            have hR2 := hR.step d hv hw hid
            obtain ⟨ann, S', t', L', i1, i2, i3, i4, i5, i6⟩ := xdr_ok hX n os _ _ _ K _ _ h hR2 (by
              rw [wr_s, put_s]
              cases d with
              | none => exact hG
              | some d =>
                refine hG.put fun c k x e g hk => ?_
                subst e
                cases op <;> cases hwd)
            refine ⟨(thereB S.h (touch S.s op), w.map (fun p : Nat × XRow => p.1)) :: ann, S', t', L', by simp [i1], ⟨v', W, wtb hw, fun L1 hdom hag => ?_, i2⟩, i3, by simpa using i4, fun a ha => ?_, by simp [hd, i6]⟩
            · intro Q os' K'
              refine hj _ L1 (fun x hx => rst_ev (o := ⟨d, op, ty, pos, af, none⟩) hx t) (fun id hid2 g hg hf => ?_) Q os' K'
              have h3 := hag id (by simp only [List.headD_cons]; rw [touch_eq] at hid2; exact thereB_mem.2 ⟨hid2, hf⟩)
              rw [tbg id g hg] at h3
              rw [h3]
              exact rowsOf_ok hR id g hg hf
            · rcases List.mem_cons.1 ha with rfl | ha
              · exact annT hs hw
              · obtain ⟨a1, a2⟩ := i5 a ha
                refine ⟨fun x hx => ?_, a2⟩
                have := a1 x hx
                have e1 := wr_dom (S.put d v) w (fun id r e => by rw [put_h]; exact (hid id r e).1) x
                rw [e1, put_h] at this
                exact this
          · exact h.elim
        · exact h.elim
      | some gd =>
        obtain ⟨j, b⟩ := gd
        simp only at h
        split at h
        · rename_i g k G' d hg
          obtain ⟨hgo, hG', hgk⟩ := xguard_ok hG hg
          split at h
          · rename_i cs v hs
            obtain ⟨hc, h⟩ := andK_all _ _ h
            unfold xstep at hs
            have hput : ∀ b, RV ρ (.gd g k v) b → Rel F ρ (S.put (some d) (.gd g k v)) (t.put d b) L := fun b hb => hR.put (some d) hb
            have hGA : GA ops.toList (S.put (some d) (.gd g k v)).s (dropG ops.toList d G') := hG'.put fun c k' x e g' hk => by
                injection e with e1 e2 e3
                subst e1
                exact (hgk k' e2 g' hk).symm
            have hkk : g = true → ∀ k1 g1, k = some k1 → fnd G' k1 = some g1 → g1 = true := fun hg1 k1 g1 e1 e2 => by rw [hgk k1 e1 g1 (fnd_mem _ _ _ e2)]; exact hg1
            have hgR : ∀ o s, nth ops.toList j = some o → o.dst = some s → RV ρ (look S.s s) ((rst (Oper.looksAt ops ⟨some d, op, ty, pos, af, some (j, b)⟩) t) s) := fun o s h1 h2 => by
              rw [rst_guard (o := ⟨some d, op, ty, pos, af, some (j, b)⟩) rfl h1 h2]; exact hR.sl s
            -- the value, whichever the test
            obtain ⟨b', hb', hst⟩ : ∃ b', RV ρ (.gd g k v) b' ∧ ∀ L1, (∀ x ∈ thereB S.h (touch S.s op), L1 (tbOf ρ n x) = L (tbOf ρ n x)) → StepW P N ops ⟨some d, op, ty, pos, af, some (j, b)⟩ (rst (Oper.looksAt ops ⟨some d, op, ty, pos, af, some (j, b)⟩) t) L1 ((rst (Oper.looksAt ops ⟨some d, op, ty, pos, af, some (j, b)⟩) t).putO (some d) b') L1 := by
              cases hg1 : g with
              | false =>
                refine ⟨.p undef, by simp only [RV]; exact ⟨fun h => (by cases h), fun _ => trivial⟩, fun L1 _ Q os' K' => ?_⟩
                exact guard_ok (S := S) hgR hgo hd (fun h => by rw [hg1] at h; cases h) (fun _ => K')
              | true =>
                obtain ⟨v', W, hv, hw, hj⟩ := xop_ok (P := P) (N := N) (ops := ops) (d := some d) (ty := ty) (pos := pos) (af := af) (rows := rowsOf ρ L) (val := ev t) hX (fun x _ hc => st_okO hR hG' (hkk hg1) hc)
                  (fun c a b hop tb hc hv => pick_ok hR hG' (hkk hg1) c a b hop tb hc hv) (fun id _ r hf g hg => RRow.rows (L := L) hR.rw (rowsOf_ok hR) id r hf g hg) hs (fun p hp => hc _ (List.mem_map_of_mem hp) hg1) hd (fun T x y e => by subst e; exact absurd rfl (store_wr hs))
                cases W with
                | some W => exact hw.elim
                | none =>
                  refine ⟨v', by simp only [RV]; exact ⟨fun _ => hv, fun h => (by cases h)⟩, fun L1 hag Q os' K' => ?_⟩
                  refine guard_ok (S := S) hgR hgo hd (fun _ => ?_) (fun h => by rw [hg1] at h; cases h)
                  refine hj _ L1 (fun x hx => rst_ev (o := ⟨some d, op, ty, pos, af, some (j, b)⟩) hx t) (fun id hid2 g hg hf => ?_) Q os' K'
                  have h3 := hag id (by rw [touch_eq] at hid2; exact thereB_mem.2 ⟨hid2, hf⟩)
                  rw [tbg id g hg] at h3
                  rw [h3]
                  exact rowsOf_ok hR id g hg hf
            obtain ⟨ann, S', t', L', i1, i2, i3, i4, i5, i6⟩ := xdr_ok hX n os _ _ _ K _ _ h (hput b' hb') hGA
            refine ⟨(thereB S.h (touch S.s op), none) :: ann, S', t', L', by simp [i1], ⟨b', none, ?_, fun L1 hdom hag => hst L1 hag, i2⟩, i3, by simpa using i4, fun a ha => ?_, by simp [hd, i6]⟩
            · rfl
            · rcases List.mem_cons.1 ha with rfl | ha
              · exact annT (W := none) hs trivial
              · exact i5 a ha
          · exact h.elim
        · exact h.elim
end
end Go.Proofs.YtghmlhdlkgjbeaaDoorAv
set_option linter.unusedVariables false
set_option linter.unusedSimpArgs false
namespace Go.Proofs.YtghmlhdlkgjbeaaDoorAv
open Go Go.RowKit
theorem VM_eq {x y : XV} (h : VM x y) : x = y := by
  unfold VM at h
  split at h
  · split at h
    · rename_i hk; rw [kb_eq hk, h]
    · exact h.elim
  · rw [h]
  · rw [h]
  · exact h
theorem VML_eq : ∀ {l k : List XV}, VML l k → l = k
  | [], [], _ => rfl
  | x :: l, y :: k, h => by
    simp only [VML] at h
    rw [VM_eq h.1, VML_eq h.2]
  | [], _ :: _, h => by simp [VML] at h
  | _ :: _, [], h => by simp [VML] at h
def Rho.below (ρ : Rho) (n : Nat) : Rho := fun i => if i < n then ρ i else none
mutual
theorem RV.below {ρ : Rho} {n : Nat} : ∀ (x : XV) (b : AV), x.lt n = true → RV ρ x b → RV (ρ.below n) x b
  | .v a, b, _, k => by simpa [RV] using k
  | .sl i sz off m, b, hh, k => by
    simp only [XV.lt, bltN, decide_eq_true_eq] at hh
    simp only [RV] at k ⊢
    have e : (ρ.below n) i = ρ i := by unfold Rho.below; rw [if_pos hh]
    rw [e]; exact k
  | .ptr i sz j q, b, hh, k => by
    simp only [XV.lt, bltN, decide_eq_true_eq] at hh
    simp only [RV] at k ⊢
    have e : (ρ.below n) i = ρ i := by unfold Rho.below; rw [if_pos hh]
    rw [e]; exact k
  | .fz m sz f, b, _, k => by simpa [RV] using k
  | .fzc m sz f, b, _, k => by simpa [RV] using k
  | .fp cs, b, _, k => by simpa [RV] using k
  | .fsel cs j, b, _, k => by simpa [RV] using k
  | .agg cs, b, hh, k => by
    simp only [XV.lt] at hh
    simp only [RV] at k ⊢
    obtain ⟨bs, hb, hr⟩ := k
    exact ⟨bs, hb, RVL.below cs bs hh hr⟩
  | .tup cs, b, hh, k => by
    simp only [XV.lt] at hh
    simp only [RV] at k ⊢
    obtain ⟨bs, hb, hr⟩ := k
    exact ⟨bs, hb, RVL.below cs bs hh hr⟩
  | .gd c key x, b, hh, k => by
    simp only [XV.lt] at hh
    simp only [RV] at k ⊢
    exact ⟨fun hc => RV.below x b hh (k.1 hc), k.2⟩
  | .top, b, _, _ => by simp [RV]
theorem RVL.below {ρ : Rho} {n : Nat} : ∀ (cs : List XV) (bs : List AV), ltL n cs = true → RVL ρ cs bs → RVL (ρ.below n) cs bs
  | [], [], _, _ => by simp [RVL]
  | c :: cs, b :: bs, hh, k => by
    simp only [ltL, Bool.and_eq_true] at hh
    simp only [RVL] at k ⊢
    exact ⟨RV.below c b hh.1 k.1, RVL.below cs bs hh.2 k.2⟩
  | [], _ :: _, _, k => by simp [RVL] at k
  | _ :: _, [], _, k => by simp [RVL] at k
end
theorem SMs_ok {S : XS} {n : Nat} : ∀ {l : List (Nat × XV)} {K : Prop}, SMs S l K → ltS n l = true → K ∧ ∀ i, look l i = .top ∨ (look S.s i = look l i ∧ (look l i).lt n = true)
  | [], K, h, _ => ⟨h, fun i => .inl rfl⟩
  | (d, v) :: l, K, h, hl => by
    obtain ⟨h1, h2⟩ := h
    simp only [ltS, Bool.and_eq_true] at hl
    obtain ⟨h3, h4⟩ := SMs_ok h2 hl.2
    refine ⟨h3, fun i => ?_⟩
    rw [look_put]
    by_cases hi : i = d
    · rw [if_pos hi, hi]; exact .inr ⟨VM_eq h1, hl.1⟩
    · rw [if_neg hi]; exact h4 i
def ltRow (n : Nat) : XRow → Bool
  | .one _ _ cs => ltL n cs
  | .vec .. => true
  | .vecU .. => true
theorem SMh_ok {S : XS} {n : Nat} : ∀ {l : List (Nat × XRow)} {K : Prop}, SMh S l K → ltH n l = true → ∀ i r, findR l i = some r → i < n ∧ ltRow n r = true ∧ ∃ r', findR S.h i = some r' ∧ RM r' r
  | [], K, h, _, i, r, hf => by simp [findR] at hf
  | (d, q) :: l, K, h, hl, i, r, hf => by
    obtain ⟨h1, h2⟩ := h
    rw [findR_put] at hf
    have hl2 : d < n ∧ ltRow n q = true ∧ ltH n l = true := by
      cases q with
      | one e ap cs => simp only [ltH, Bool.and_eq_true, bltN, decide_eq_true_eq] at hl; exact ⟨hl.1, hl.2.1, hl.2.2⟩
      | vec e ap m sz f => simp only [ltH, Bool.and_eq_true, bltN, decide_eq_true_eq] at hl; exact ⟨hl.1, rfl, hl.2⟩
      | vecU e ap m sz i cs f => simp only [ltH, Bool.and_eq_true, bltN, decide_eq_true_eq] at hl; exact ⟨hl.1, rfl, hl.2⟩
    by_cases hi : i = d
    · rw [if_pos hi] at hf
      obtain rfl := Option.some.inj hf
      subst hi
      refine ⟨hl2.1, hl2.2.1, ?_⟩
      split at h1
      · rename_i r' hr'; exact ⟨r', hr', h1⟩
      · exact h1.elim
    · rw [if_neg hi] at hf
      exact SMh_ok h2 hl2.2.2 i r hf
theorem RM_row {ρ : Rho} {n : Nat} {r' r : XRow} {row : Row} (h : RM r' r) (hl : ltRow n r = true) (k : RRow ρ r' row) : RRow (ρ.below n) r row := by
  unfold RM at h
  split at h
  · obtain ⟨⟨rfl, rfl⟩, h⟩ := h
    simp only [RRow] at k ⊢
    rw [VML_eq h] at k
    exact ⟨k.1, k.2.1, RVL.below _ _ hl k.2.2⟩
  · obtain ⟨⟨rfl, rfl, rfl⟩, rfl, h⟩ := h
    simp only [RRow] at k ⊢
    rw [k]
    congr 1
    exact vecOf_congr fun j hj => by rw [h j hj]
  · obtain ⟨⟨rfl, rfl, rfl⟩, rfl, h⟩ := h
    simp only [RRow] at k ⊢
    rw [k]
    congr 1
    exact vecOf_congr fun j hj => by rw [h j hj]
  · exact h.elim
theorem SMh_K {S : XS} : ∀ {l : List (Nat × XRow)} {K : Prop}, SMh S l K → K
  | [], K, h => h
  | (d, q) :: l, K, h => SMh_K h.2
section
variable {P : Program} {N : Nat} {ρ : Rho} {F : Fr} {S S' : XS} {t : TM} {L : GH}
/-- A state that is told anew. -/
theorem SM_ok {T : XS} (h : SM S T) (hR : Rel F ρ S t L) : Rel F (ρ.below T.nx) T t L := by
  obtain ⟨hs, h⟩ := h
  simp only [scopeB, Bool.and_eq_true] at hs
  obtain ⟨hh, hsl⟩ := SMs_ok h hs.1
  have hrw := SMh_ok hh hs.2.1
  have dom : ∀ i, (findR T.h i).isSome = true → i < T.nx ∧ (findR S.h i).isSome = true := by
    intro i hi
    cases hf : findR T.h i with
    | none => rw [hf] at hi; cases hi
    | some r =>
      obtain ⟨h1, _, r', h2, _⟩ := hrw i r hf
      exact ⟨h1, by rw [h2]; rfl⟩
  have hgs : RVL (ρ.below T.nx) T.gs F.tg := by
    have hv : S.gs = T.gs := by
      have := SMh_K hh
      unfold SMg at this
      split at this
      · rename_i e1 e2; rw [e1, e2]
      · exact VML_eq this.1
    rw [← hv] at hs ⊢
    exact RVL.below _ _ hs.2.2.2.2.2 hR.gh
  refine ⟨fun i => ?_, fun i r hf => ?_, fun i j g hi hj e1 e2 => ?_, fun i hi => ?_, fun b r hb => ?_, fun hp => ?_, hgs⟩
  · rcases hsl i with h1 | ⟨h1, h2⟩
    · rw [h1]; simp [RV]
    · rw [← h1] at h2 ⊢
      exact RV.below _ _ h2 (hR.sl i)
  · obtain ⟨h1, h2, r', h3, h4⟩ := hrw i r hf
    have hb : (ρ.below T.nx) i = ρ i := by unfold Rho.below; rw [if_pos h1]
    rcases hR.rw i r' h3 with ⟨g, row, k1, k2, k3⟩ | ⟨k1, e, sz, f, rfl⟩
    · exact .inl ⟨g, row, by rw [hb]; exact k1, k2, RM_row h4 h2 k3⟩
    · refine .inr ⟨by rw [hb]; exact k1, ?_⟩
      unfold RM at h4
      split at h4
      · rename_i heq; cases heq
      · rename_i heq
        injection heq with q1 q2 q3 q4 q5
        subst q1 q2 q3 q4 q5
        obtain ⟨⟨rfl, rfl, rfl⟩, rfl, _⟩ := h4
        exact ⟨_, _, _, rfl⟩
      · rename_i heq; cases heq
      · exact h4.elim
  · obtain ⟨a1, a2⟩ := dom i hi
    obtain ⟨b1, b2⟩ := dom j hj
    unfold Rho.below at e1 e2
    rw [if_pos a1] at e1
    rw [if_pos b1] at e2
    exact hR.inj i j g a2 b2 e1 e2
  · unfold Rho.below
    rw [if_neg (by omega)]
  · obtain ⟨h1, h2⟩ := hR.fr b r hb
    refine ⟨h1, fun i hi => ?_⟩
    obtain ⟨a1, a2⟩ := dom i hi
    unfold Rho.below
    rw [if_pos a1]
    exact h2 i a2
  · obtain ⟨-, -, -, hpb, hpe, -⟩ := hs
    have hSp : S.pn = true := by
      unfold eqB at hpe
      split at hpe
      · rename_i h1 h2; exact h1
      · rename_i h1 h2; rw [hp] at h2; cases h2
      · cases hpe
    obtain ⟨p1, p2, p3⟩ := hR.pin hSp
    unfold pinB at hpb
    rw [hp] at hpb
    simp only at hpb
    split at hpb
    · rename_i e ap cs hf
      rw [bltN, decide_eq_true_eq] at hpb
      refine ⟨?_, hpb, e, ap, cs, hf⟩
      unfold Rho.below
      rw [if_pos hpb]
      exact p1
    · cases hpb
/-- A slot that holds a nil slice, told as a slice of one's own. -/
theorem xown_ok {d sz : Nat} {e : TypeId} (h : xown S d e sz = some S') (hR : Rel F ρ S t L) : ∃ ρ', Rel F ρ' S' t L := by
  unfold xown at h
  split at h
  · rename_i hl
    obtain rfl := Option.some.inj h
    have h1 := Rel.newN hR e sz fun _ => []
    have hs := hR.sl d
    rw [hl] at hs
    simp only [RV] at hs
    refine ⟨ρ.set S.nx none, ⟨fun i => ?_, h1.rw, h1.inj, h1.nx, h1.fr, h1.pin, h1.gh⟩⟩
    show RV _ (look ((d, .sl S.nx sz 0 0) :: S.s) i) _
    rw [look_put]
    split
    · rename_i hi
      subst hi
      simp only [RV]
      exact .inr ⟨set_same _ _ _, trivial, trivial, hs⟩
    · exact h1.sl i
  · cases h
theorem J.retell {P : Program} {N : Nat} {c : Code} {Q : Exit → TM → GH → Prop} {t t' : TM} {L L' : GH} (hd : ∀ b, L b = none → L' b = none)
    (hv : ∀ w, (∀ g r, L g = some r → RowR L w g r) → (∀ g r, L' g = some r → RowR L' w g r) ∧ ∀ i x, VS L w (t i) x → VS L' w (t' i) x) (h : J P N c Q t' L') : J P N c Q t L := by
  intro L0 w0 a w he hs
  have hx := Ext.drop w hd
  obtain ⟨h1, h2⟩ := hv w hs.rows
  exact h L0 w0 a w (he.trans hx) ⟨fun i => h2 i _ (hs.tm i), h1, hs.size, hs.df.1, hs.df.2.ext hx⟩
/-- A slice of one's own that is only read from now on. -/
theorem xfrz_ok {c : Code} {Q : Exit → TM → GH → Prop} {d : Nat} {cs : List Prop} (h : xfrz S d = some (cs, S')) (hc : ∀ p ∈ cs, p) (hR : Rel F ρ S t L) (K : ∀ ρ' t' L', Rel F ρ' S' t' L' → J P N c Q t' L') : J P N c Q t L := by
  unfold xfrz at h
  split at h
  · rename_i id sz n hl
    split at h
    · rename_i e n' sz' f hq
      split at h
      · rename_i hs
        rw [beqN, decide_eq_true_eq] at hs
        subst hs
        simp only [Option.some.injEq, Prod.mk.injEq] at h
        obtain ⟨rfl, rfl⟩ := h
        have hn : n = n' := all1 hc
        subst hn
        have hsl := hR.sl d
        rw [hl] at hsl
        simp only [RV] at hsl
        have hlt : ∀ o, ρ id = some o → id < S.nx := by
          intro o ho
          rcases Nat.lt_or_ge id S.nx with h | h
          · exact h
          · rw [hR.nx id h] at ho; cases ho
        have go : ∀ (L0 : GH) (og : Option Nat) (row : Row), L = updo L0 og row → row.cs = vecOf n sz (fun i => toAVL (f i)) → Fre L0 og → ρ id = some og → t d = hv og sz n → (og = none → row.cs = [] ∧ n = 0) → J P N c Q t L := by
          intro L0 og row hL hcs hF hid ht hnil
          subst hL
          refine J.freeze d hF ht hnil (by rw [hcs, vecOf_length]) ?_
          rw [hcs]
          -- what is left is told of no block that is this one
          have fi : ∀ i, findR (dropH id (delR S.h id)) i = if i = id then none else (findR S.h i).map (dropRow id) := by
            intro i
            rw [findR_drop, findR_del]
            by_cases hi : i = id
            · rw [if_pos hi, if_pos hi]; rfl
            · rw [if_neg hi, if_neg hi]
          have old : ∀ i g row', i ≠ id → (findR S.h i).isSome = true → ρ i = some (some g) → updo L0 og row g = some row' → L0 g = some row' := by
            intro i g row' hi hs e1 e2
            cases og with
            | none => exact e2
            | some g0 =>
              have hne : g ≠ g0 := by
                rintro rfl
                exact hi (hR.inj i id _ hs (by rw [hq]; rfl) e1 hid)
              simpa [updo, upd_ne _ _ _ _ hne] using e2
          refine K (ρ.set id none) _ _ ⟨fun i => ?_, fun i q hf => ?_, fun i j g hi hj e1 e2 => ?_, fun i hi => ?_, fun b q hb => ?_, fun hp => ?_, dropC_ok hR.gh⟩
          · show RV _ (look ((d, .fz n sz f) :: dropS id S.s) i) _
            rw [look_put]
            by_cases hi : i = d
            · rw [if_pos hi, hi, TM.put_same]
              simp only [RV, toAV]
            · rw [if_neg hi, TM.put_ne _ _ _ _ hi, look_drop]
              exact RV.drop (hR.sl i)
          · simp only at hf
            rw [fi] at hf
            by_cases hi : i = id
            · rw [if_pos hi] at hf; cases hf
            · rw [if_neg hi] at hf
              cases hf2 : findR S.h i with
              | none => rw [hf2] at hf; cases hf
              | some p =>
                rw [hf2] at hf
                obtain rfl := Option.some.inj hf
                rcases hR.rw i p hf2 with ⟨g', row', h1, h2, h3⟩ | ⟨h1, e, sz, f, rfl⟩
                · exact .inl ⟨g', row', by rw [set_ne _ _ hi]; exact h1, old i g' row' hi (by rw [hf2]; rfl) h1 h2, h3.drop⟩
                · exact .inr ⟨by rw [set_ne _ _ hi]; exact h1, e, sz, f, rfl⟩
          · simp only at hi hj
            rw [fi] at hi hj
            by_cases a1 : i = id
            · rw [if_pos a1] at hi; cases hi
            · by_cases a2 : j = id
              · rw [if_pos a2] at hj; cases hj
              · rw [if_neg a1] at hi
                rw [if_neg a2] at hj
                rw [set_ne _ _ a1] at e1
                rw [set_ne _ _ a2] at e2
                exact hR.inj i j g (by simpa using hi) (by simpa using hj) e1 e2
          · simp only at hi
            have := hlt og hid
            rw [set_ne _ _ (by omega)]
            exact hR.nx i hi
          · obtain ⟨h1, h2⟩ := hR.fr b q hb
            have h3 : L0 b = some q := by
              cases og with
              | none => exact h1
              | some g0 =>
                have hne : b ≠ g0 := by rintro rfl; exact h2 id (by rw [hq]; rfl) hid
                simpa [updo, upd_ne _ _ _ _ hne] using h1
            refine ⟨h3, fun i hi => ?_⟩
            simp only at hi
            rw [fi] at hi
            by_cases a1 : i = id
            · rw [if_pos a1] at hi; cases hi
            · rw [if_neg a1] at hi
              rw [set_ne _ _ a1]
              exact h2 i (by simpa using hi)
          · obtain ⟨p1, p2, e', ap', cs', p3⟩ := hR.pin hp
            have hne : 0 ≠ id := by
              rintro rfl
              rw [hq] at p3; cases p3
            refine ⟨by rw [set_ne _ _ hne]; exact p1, p2, e', ap', dropC id cs', ?_⟩
            show findR (dropH id (delR S.h id)) 0 = _
            rw [fi, if_neg hne, p3]
            rfl
        rcases hsl with ⟨g0, hid, ht⟩ | ⟨hid, hn0, -, ht⟩
        · obtain ⟨row, hL, hrow⟩ := (hR.rw id _ hq).some_g hid
          simp only [RRow] at hrow
          refine go (del L g0) (some g0) row ?_ (by rw [hrow]) (fun g' h => by obtain rfl := Option.some.inj h; simp [del]) hid (by rw [ht]; simp [hv]) (fun h => by cases h)
          funext b'
          simp only [updo, upd, del]
          split
          · rename_i hb'; rw [hb', hL]
          · rfl
        · exact go L none ⟨0, true, vecOf n sz fun i => toAVL (f i)⟩ rfl rfl (fun g' h => by cases h) hid (by rw [ht]; rfl) (fun _ => ⟨by rw [hn0]; simp [vecOf], hn0⟩)
      · cases h
    · cases h
  · rename_i hl
    simp only [Option.some.injEq, Prod.mk.injEq] at h
    obtain ⟨-, rfl⟩ := h
    have hsl := hR.sl d
    rw [hl] at hsl
    simp only [RV] at hsl
    refine J.retell (t' := t.putO (some d) (.fz 0 (vecOf 0 1 fun _ => toAVL [.v (.p (.string ⟨#[]⟩))]))) (L' := L) (fun b hb => hb) (fun w hw => ⟨hw, fun i x hx => ?_⟩) (K ρ _ L (Rel.put hR (some d) (by simp only [RV, toAV])))
    show VS L w ((t.put d (.fz 0 (vecOf 0 1 fun _ => toAVL [.v (.p (.string ⟨#[]⟩))]))) i) x
    unfold TM.put
    split
    · rename_i hi
      rw [hi, hsl] at hx
      simp only [VS] at hx ⊢
      subst hx
      exact ⟨none, 0, [], rfl, Nat.le_refl _, .inl rfl, by simp [vecOf, VSL]⟩
    · exact hx
  · simp only [Option.some.injEq, Prod.mk.injEq] at h
    obtain ⟨-, rfl⟩ := h
    exact K ρ t L hR
  · cases h
/-- A slice of one's own, in a cell of a variable, that is only read from now on. -/
theorem xfrzc_ok {c : Code} {Q : Exit → TM → GH → Prop} {d o : Nat} {cs : List Prop} (h : xfrzc S d o = some (cs, S')) (hc : ∀ p ∈ cs, p) (hR : Rel F ρ S t L) (K : ∀ ρ' t' L', Rel F ρ' S' t' L' → J P N c Q t' L') : J P N c Q t L := by
  unfold xfrzc at h
  split at h
  · rename_i v hl
    split at h
    · rename_i e ap cells hv
      split at h
      · rename_i id sz n hcell
        split at h
        · rename_i e2 n' sz' f hq
          split at h
          · rename_i hs
            rw [beqN, decide_eq_true_eq] at hs
            subst hs
            simp only [Option.some.injEq, Prod.mk.injEq] at h
            obtain ⟨rfl, rfl⟩ := h
            have hn : n = n' := all1 hc
            subst hn
            have hvid : v ≠ id := by rintro rfl; rw [hv] at hq; cases hq
            have hsl := hR.sl d
            rw [hl] at hsl
            simp only [RV] at hsl
            obtain ⟨gv, hgv, -⟩ := hsl
            obtain ⟨row, hL, he, hap, hcs⟩ := (hR.rw v _ hv).some_g hgv
            have hlen := hcs.length
            have ho : o < cells.length := by
              rcases Nat.lt_or_ge o cells.length with h | h
              · exact h
              · rw [xget_eq, List.getD_eq_getElem?_getD, List.getElem?_eq_none h] at hcell
                cases hcell
            obtain ⟨b, hb1, hb2⟩ := hcs.get o ho
            rw [← xget_eq, hcell] at hb2
            have hlt : ∀ q, ρ id = some q → id < S.nx := by
              intro q hq
              rcases Nat.lt_or_ge id S.nx with h | h
              · exact h
              · rw [hR.nx id h] at hq; cases hq
            have go : ∀ (L0 : GH) (og : Option Nat) (r : Row), L = updo L0 og r → r.cs = vecOf n sz (fun i => toAVL (f i)) → Fre L0 og → ρ id = some og → b = YtghmlhdlkgjbeaaDoorAv.hv og sz n → (og = none → r.cs = [] ∧ n = 0) → J P N c Q t L := by
              intro L0 og r hLL hrcs hF hid hb hnil
              subst hLL
              have hne0 : og ≠ some gv := by
                intro h
                rw [h] at hid
                exact hvid (hR.inj v id gv (by rw [hv]; rfl) (by rw [hq]; rfl) hgv hid)
              have hL0 : L0 gv = some row := by
                cases og with
                | none => exact hL
                | some g0 =>
                  have : gv ≠ g0 := by rintro rfl; exact hne0 rfl
                  simpa [updo, upd_ne _ _ _ _ this] using hL
              have hd0 : ∀ b, updo L0 og r b = none → L0 b = none := fun b hb => (updo_none hb).2
              have hd : ∀ b, updo L0 og r b = none → upd L0 gv ⟨row.e, row.ap, row.cs.take o ++ ([.fz n r.cs] ++ row.cs.drop (o + 1))⟩ b = none := by
                intro b hb
                have := hd0 b hb
                rw [upd_ne]
                · exact this
                · rintro rfl; rw [hL0] at this; cases this
              refine J.retell (t' := t) (L' := upd L0 gv ⟨row.e, row.ap, row.cs.take o ++ ([.fz n r.cs] ++ row.cs.drop (o + 1))⟩) hd (fun w hrows => ⟨fun g q hg => ?_, fun i x hx => VS.ext (Ext.drop w hd) _ _ hx⟩) ?_
              · by_cases hgg : g = gv
                · subst hgg
                  rw [upd_same] at hg
                  obtain rfl := Option.some.inj hg
                  obtain ⟨c', fr, vs, k1, k2, k3, k4, k5, k6, k7⟩ := hrows g row hL
                  have hll := k6.length
                  have hvo : ∃ x, vs[o]? = some x ∧ VS (updo L0 og r) w b x := by
                    obtain ⟨x, hx1, hx2⟩ := k6.get o b hb1
                    exact ⟨x, hx1, hx2⟩
                  obtain ⟨x, hx1, hx2⟩ := hvo
                  rw [hb] at hx2
                  have hfz := freeze_VS (sz := sz) hF hrows hnil (by rw [hrcs, vecOf_length]) hx2
                  have hol : o < vs.length := by rw [← hll, ← hlen]; exact ho
                  have hvs : vs = vs.take o ++ ([x] ++ vs.drop (o + 1)) := by
                    have : vs.drop o = x :: vs.drop (o + 1) := by
                      rw [List.drop_eq_getElem_cons hol]
                      rw [List.getElem?_eq_getElem hol] at hx1
                      rw [Option.some.inj hx1]
                    rw [List.singleton_append, ← this, List.take_append_drop]
                  have hx0 : VSL (upd L0 g ⟨row.e, row.ap, row.cs.take o ++ ([.fz n r.cs] ++ row.cs.drop (o + 1))⟩) w (row.cs.take o ++ ([.fz n r.cs] ++ row.cs.drop (o + 1))) vs := by
                    rw [hvs]
                    refine VSL.append (VSL.ext (Ext.drop w hd) _ _ (k6.take o)) (VSL.append ?_ (VSL.ext (Ext.drop w hd) _ _ (k6.drop (o + 1))))
                    simp only [VSL]
                    refine ⟨VS.ext (Ext.drop w fun b hb => ?_) _ _ hfz, trivial⟩
                    rw [upd_ne]
                    · exact hb
                    · rintro rfl; rw [hL0] at hb; cases hb
                  have hlen2 : (row.cs.take o ++ ([AV.fz n r.cs] ++ row.cs.drop (o + 1))).length = row.cs.length := by
                    have : o < row.cs.length := by omega
                    simp; omega
                  exact ⟨c', fr, vs, k1, k2, k3, by simp only; omega, by simp only; rw [hlen2]; exact k5, hx0, k7⟩
                · rw [upd_ne _ _ _ _ hgg] at hg
                  have hg2 : updo L0 og r g = some q := by
                    cases og with
                    | none => exact hg
                    | some g0 =>
                      have : g ≠ g0 := by rintro rfl; rw [hF g rfl] at hg; cases hg
                      simpa [updo, upd_ne _ _ _ _ this] using hg
                  exact (hrows g q hg2).ext (Ext.drop w hd) rfl
              · have fi : ∀ i, findR ((v, .one e ap (xsplice (dropC id cells) [.fz n sz f] o)) :: dropH id (delR (delR S.h v) id)) i = if i = v then some (.one e ap (xsplice (dropC id cells) [.fz n sz f] o)) else if i = id then none else (findR S.h i).map (dropRow id) := by
                  intro i
                  rw [findR_put, findR_drop, findR_del, findR_del]
                  by_cases hi : i = v
                  · rw [if_pos hi, if_pos hi]
                  · rw [if_neg hi, if_neg hi]
                    by_cases hj : i = id
                    · rw [if_pos hj, if_neg hi, if_pos hj]; rfl
                    · rw [if_neg hj, if_neg hi, if_neg hj]
                have old : ∀ i g row', i ≠ id → (findR S.h i).isSome = true → ρ i = some (some g) → updo L0 og r g = some row' → L0 g = some row' := by
                  intro i g row' hi hs e1 e2
                  cases og with
                  | none => exact e2
                  | some g0 =>
                    have hne : g ≠ g0 := by
                      rintro rfl
                      exact hi (hR.inj i id _ hs (by rw [hq]; rfl) e1 hid)
                    simpa [updo, upd_ne _ _ _ _ hne] using e2
                have ss : ∀ i, (findR ((v, .one e ap (xsplice (dropC id cells) [.fz n sz f] o)) :: dropH id (delR (delR S.h v) id)) i).isSome = true → i ≠ id ∧ (findR S.h i).isSome = true := by
                  intro i hi
                  rw [fi] at hi
                  by_cases a1 : i = v
                  · rw [a1]; exact ⟨hvid, by rw [hv]; rfl⟩
                  · rw [if_neg a1] at hi
                    by_cases a2 : i = id
                    · rw [if_pos a2] at hi; cases hi
                    · rw [if_neg a2] at hi
                      exact ⟨a2, by simpa using hi⟩
                refine K (ρ.set id none) _ _ ⟨fun i => ?_, fun i q hf => ?_, fun i j g hi hj e1 e2 => ?_, fun i hi => ?_, fun b q hb => ?_, fun hp => ?_, dropC_ok hR.gh⟩
                · show RV _ (look (dropS id S.s) i) _
                  rw [look_drop]
                  exact RV.drop (hR.sl i)
                · simp only at hf
                  rw [fi] at hf
                  by_cases hi : i = v
                  · rw [if_pos hi] at hf
                    obtain rfl := Option.some.inj hf
                    subst hi
                    refine .inl ⟨gv, _, by rw [set_ne _ _ hvid]; exact hgv, upd_same _ _ _, he, hap, ?_⟩
                    rw [xsplice_eq]
                    have hdc : RVL (ρ.set id none) (dropC id cells) row.cs := dropC_ok hcs
                    refine RVL.append (hdc.take o) (RVL.append ?_ (hdc.drop _))
                    simp only [RVL, RV, toAV, and_true]
                    rw [hrcs]
                  · rw [if_neg hi] at hf
                    by_cases hj : i = id
                    · rw [if_pos hj] at hf; cases hf
                    · rw [if_neg hj] at hf
                      cases hf2 : findR S.h i with
                      | none => rw [hf2] at hf; cases hf
                      | some p =>
                        rw [hf2] at hf
                        obtain rfl := Option.some.inj hf
                        rcases hR.rw i p hf2 with ⟨g', row', h1, h2, h3⟩ | ⟨h1, e, sz, f, rfl⟩
                        · refine .inl ⟨g', row', by rw [set_ne _ _ hj]; exact h1, ?_, h3.drop⟩
                          rw [upd_ne]
                          · exact old i g' row' hj (by rw [hf2]; rfl) h1 h2
                          · rintro rfl
                            exact hi (hR.inj i v _ (by rw [hf2]; rfl) (by rw [hv]; rfl) h1 hgv)
                        · exact .inr ⟨by rw [set_ne _ _ hj]; exact h1, e, sz, f, rfl⟩
                · obtain ⟨a1, a2⟩ := ss i hi
                  obtain ⟨b1, b2⟩ := ss j hj
                  rw [set_ne _ _ a1] at e1
                  rw [set_ne _ _ b1] at e2
                  exact hR.inj i j g a2 b2 e1 e2
                · have := hlt og hid
                  simp only at hi
                  rw [set_ne _ _ (by omega)]
                  exact hR.nx i hi
                · obtain ⟨h1, h2⟩ := hR.fr b q hb
                  have hbv : b ≠ gv := by rintro rfl; exact h2 v (by rw [hv]; rfl) hgv
                  have h3 : L0 b = some q := by
                    cases og with
                    | none => exact h1
                    | some g0 =>
                      have hne : b ≠ g0 := by rintro rfl; exact h2 id (by rw [hq]; rfl) hid
                      simpa [updo, upd_ne _ _ _ _ hne] using h1
                  refine ⟨by rw [upd_ne _ _ _ _ hbv]; exact h3, fun i hi => ?_⟩
                  obtain ⟨a1, a2⟩ := ss i hi
                  rw [set_ne _ _ a1]
                  exact h2 i a2
                · obtain ⟨p1, p2, e', ap', cs', p3⟩ := hR.pin hp
                  have hne : 0 ≠ id := by
                    rintro rfl
                    rw [hq] at p3; cases p3
                  refine ⟨by rw [set_ne _ _ hne]; exact p1, p2, ?_⟩
                  show ∃ e ap cs, findR _ 0 = _
                  rw [fi]
                  by_cases h0 : 0 = v
                  · rw [if_pos h0]; exact ⟨_, _, _, rfl⟩
                  · rw [if_neg h0, if_neg hne, p3]; exact ⟨_, _, _, rfl⟩
            simp only [RV] at hb2
            rcases hb2 with ⟨g0, hid, ht⟩ | ⟨hid, hn0, -, ht⟩
            · obtain ⟨row', hL', hrow⟩ := (hR.rw id _ hq).some_g hid
              simp only [RRow] at hrow
              refine go (del L g0) (some g0) row' ?_ (by rw [hrow]) (fun g' h => by obtain rfl := Option.some.inj h; simp [del]) hid (by rw [ht]; simp [YtghmlhdlkgjbeaaDoorAv.hv]) (fun h => by cases h)
              funext b'
              simp only [updo, upd, del]
              split
              · rename_i hb'; rw [hb', hL']
              · rfl
            · exact go L none ⟨0, true, vecOf n sz fun i => toAVL (f i)⟩ rfl rfl (fun g' h => by cases h) hid (by rw [ht]; rfl) (fun _ => ⟨by rw [hn0]; simp [vecOf], hn0⟩)
          · cases h
        · cases h
      · cases h
    · cases h
  · cases h
theorem pre0_ok {c : Code} {Q : Exit → TM → GH → Prop} : ∀ (sc : Sc) (S : XS) (cs : List Prop) (S' : XS) (sc' : Sc) (ρ : Rho) (t : TM) (L : GH), pre0 sc S = some (cs, S', sc') → (∀ p ∈ cs, p) → Rel F ρ S t L → (∀ ρ' t' L', Rel F ρ' S' t' L' → J P N c Q t' L') → J P N c Q t L
  | .own d e sz k, S, cs, S', sc', ρ, t, L, h, hc, hR, K => by
    simp only [pre0] at h
    split at h
    · rename_i S1 h1
      obtain ⟨ρ', hR'⟩ := xown_ok h1 hR
      exact pre0_ok k S1 cs S' sc' ρ' t L h hc hR' K
    · cases h
  | .frz d k, S, cs, S', sc', ρ, t, L, h, hc, hR, K => by
    simp only [pre0] at h
    split at h
    · rename_i cs1 S1 h1
      split at h
      · rename_i ds r h2
        simp only [Option.some.injEq, Prod.mk.injEq] at h
        obtain ⟨rfl, rfl⟩ := h
        exact xfrz_ok h1 (allL hc) hR fun ρ' t' L' hR' => pre0_ok k S1 ds S' sc' ρ' t' L' h2 (allR hc) hR' K
      · cases h
    · cases h
  | .frzc d o k, S, cs, S', sc', ρ, t, L, h, hc, hR, K => by
    simp only [pre0] at h
    split at h
    · rename_i cs1 S1 h1
      split at h
      · rename_i ds r h2
        simp only [Option.some.injEq, Prod.mk.injEq] at h
        obtain ⟨rfl, rfl⟩ := h
        exact xfrzc_ok h1 (allL hc) hR fun ρ' t' L' hR' => pre0_ok k S1 ds S' sc' ρ' t' L' h2 (allR hc) hR' K
      · cases h
    · cases h
  | .casb .., S, cs, S', sc', ρ, t, L, h, hc, hR, K => by simp only [pre0, Option.some.injEq, Prod.mk.injEq] at h; obtain ⟨-, rfl, -⟩ := h; exact K ρ t L hR
  | .fk _, S, cs, S', sc', ρ, t, L, h, hc, hR, K => by simp only [pre0, Option.some.injEq, Prod.mk.injEq] at h; obtain ⟨-, rfl, -⟩ := h; exact K ρ t L hR
  | .nil, S, cs, S', sc', ρ, t, L, h, hc, hR, K => by simp only [pre0, Option.some.injEq, Prod.mk.injEq] at h; obtain ⟨-, rfl, -⟩ := h; exact K ρ t L hR
  | .seq _ _, S, cs, S', sc', ρ, t, L, h, hc, hR, K => by simp only [pre0, Option.some.injEq, Prod.mk.injEq] at h; obtain ⟨-, rfl, -⟩ := h; exact K ρ t L hR
  | .cut _ _ _, S, cs, S', sc', ρ, t, L, h, hc, hR, K => by simp only [pre0, Option.some.injEq, Prod.mk.injEq] at h; obtain ⟨-, rfl, -⟩ := h; exact K ρ t L hR
  | .cond _ _, S, cs, S', sc', ρ, t, L, h, hc, hR, K => by simp only [pre0, Option.some.injEq, Prod.mk.injEq] at h; obtain ⟨-, rfl, -⟩ := h; exact K ρ t L hR
  | .T _, S, cs, S', sc', ρ, t, L, h, hc, hR, K => by simp only [pre0, Option.some.injEq, Prod.mk.injEq] at h; obtain ⟨-, rfl, -⟩ := h; exact K ρ t L hR
  | .F _, S, cs, S', sc', ρ, t, L, h, hc, hR, K => by simp only [pre0, Option.some.injEq, Prod.mk.injEq] at h; obtain ⟨-, rfl, -⟩ := h; exact K ρ t L hR
  | .blk _, S, cs, S', sc', ρ, t, L, h, hc, hR, K => by simp only [pre0, Option.some.injEq, Prod.mk.injEq] at h; obtain ⟨-, rfl, -⟩ := h; exact K ρ t L hR
  | .loop _ _, S, cs, S', sc', ρ, t, L, h, hc, hR, K => by simp only [pre0, Option.some.injEq, Prod.mk.injEq] at h; obtain ⟨-, rfl, -⟩ := h; exact K ρ t L hR
  | .roll _ _, S, cs, S', sc', ρ, t, L, h, hc, hR, K => by simp only [pre0, Option.some.injEq, Prod.mk.injEq] at h; obtain ⟨-, rfl, -⟩ := h; exact K ρ t L hR
  | .loopP _ _, S, cs, S', sc', ρ, t, L, h, hc, hR, K => by simp only [pre0, Option.some.injEq, Prod.mk.injEq] at h; obtain ⟨-, rfl, -⟩ := h; exact K ρ t L hR
  | .cas _ _ _, S, cs, S', sc', ρ, t, L, h, hc, hR, K => by simp only [pre0, Option.some.injEq, Prod.mk.injEq] at h; obtain ⟨-, rfl, -⟩ := h; exact K ρ t L hR
  | .D _ _, S, cs, S', sc', ρ, t, L, h, hc, hR, K => by simp only [pre0, Option.some.injEq, Prod.mk.injEq] at h; obtain ⟨-, rfl, -⟩ := h; exact K ρ t L hR
theorem pre_ok {c : Code} {Q : Exit → TM → GH → Prop} (sc : Sc) (S : XS) (cs : List Prop) (S' : XS) (sc' : Sc) (ρ : Rho) (t : TM) (L : GH) (h : pre sc S = some (cs, S', sc')) (hc : ∀ p ∈ cs, p) (hR : Rel F ρ S t L) (K : ∀ ρ' t' L', Rel F ρ' S' t' L' → J P N c Q t' L') : J P N c Q t L := by
  unfold pre at h
  split at h
  · exact pre0_ok sc S.pl cs S' sc' ρ t L h hc hR.pl K
  · simp only [Option.some.injEq, Prod.mk.injEq] at h
    obtain ⟨-, rfl, -⟩ := h
    exact K ρ t L hR
theorem casP_of {v : Int} {f : Int → Prop} : ∀ {l : List Int}, casD v l → casP v f l → f v
  | [], h, _ => h.elim
  | c :: l, h, k => by
    rcases h with h | h
    · subst h; exact k.1 rfl
    · exact casP_of h k.2
theorem xcas_ok {c : Code} {Q : Exit → TM → GH → Prop} {f : XS → Sc → Prop} {ρ : Rho} {t : TM} {L : GH} : ∀ (sc : Sc) (S : XS), xcas f sc S → Rel F ρ S t L → (∀ S' sc', f S' sc' → Rel F ρ S' t L → J P N c Q t L) → J P N c Q t L
  | .cas d l k, S, h, hR, K => by
    simp only [xcas] at h
    split at h
    · rename_i kk v hl
      have h2 := casP_of h.1 h.2
      refine xcas_ok k _ h2 ⟨fun i => ?_, hR.rw, hR.inj, hR.nx, hR.fr, hR.pin, hR.gh⟩ K
      show RV _ (look ((d, .v (.p (.int kk v))) :: S.s) i) _
      rw [look_put]
      split
      · rename_i hi
        have := hR.sl d
        rw [hl] at this
        rw [hi]
        exact this
      · exact hR.sl i
    · exact h.elim
  | .casb d k, S, h, hR, K => by
    simp only [xcas] at h
    split at h
    · rename_i v hl
      have put' : ∀ c', v = c' → Rel F ρ { S with s := (d, .v (.p (.bool c'))) :: S.s } t L := by
        rintro c' rfl
        refine ⟨fun i => ?_, hR.rw, hR.inj, hR.nx, hR.fr, hR.pin, hR.gh⟩
        show RV _ (look ((d, .v (.p (.bool v))) :: S.s) i) _
        rw [look_put]
        split
        · rename_i hi
          have := hR.sl d
          rw [hl] at this
          rw [hi]
          exact this
        · exact hR.sl i
      cases v with
      | true => exact xcas_ok k _ (h.1 rfl) (put' _ rfl) K
      | false => exact xcas_ok k _ (h.2 rfl) (put' _ rfl) K
    · exact h.elim
  | .nil, S, h, hR, K => K _ _ h hR
  | .seq .., S, h, hR, K => K _ _ h hR
  | .cut .., S, h, hR, K => K _ _ h hR
  | .cond .., S, h, hR, K => K _ _ h hR
  | .T .., S, h, hR, K => K _ _ h hR
  | .F .., S, h, hR, K => K _ _ h hR
  | .blk .., S, h, hR, K => K _ _ h hR
  | .loop .., S, h, hR, K => K _ _ h hR
  | .roll .., S, h, hR, K => K _ _ h hR
  | .loopP .., S, h, hR, K => K _ _ h hR
  | .D .., S, h, hR, K => K _ _ h hR
  | .fk .., S, h, hR, K => K _ _ h hR
  | .frzc .., S, h, hR, K => K _ _ h hR
  | .own .., S, h, hR, K => K _ _ h hR
  | .frz .., S, h, hR, K => K _ _ h hR
theorem JD.mono {ops : Array Oper} {tb : Nat → Nat} {D : GH} : ∀ {l : List Oper} {ann : List (List Nat × Option Nat)} {t : TM} {L : GH} {K K' : TM → GH → Prop}, JD P N ops tb D l ann t L K → (∀ t L, K t L → K' t L) → JD P N ops tb D l ann t L K'
  | [], _, t, L, K, K', h, hk => hk t L h
  | o :: os, ann, t, L, K, K', ⟨v, W, h1, h2, h3⟩, hk => ⟨v, W, h1, h2, JD.mono h3 hk⟩
/-- What is told behind a piece of code. -/
def QX (F : Fr) (Q : Exit → XS → Prop) : Exit → TM → GH → Prop := fun e t L => ∃ ρ S, Rel F ρ S t L ∧ Q e S
theorem xwp_ok {X : Cx} (hX : X.ok P) : ∀ (c : Code) (sc : Sc) (S : XS) (Q : Exit → XS → Prop) (ρ : Rho) (t : TM) (L : GH), xwp X N c sc S Q → Rel F ρ S t L → J P N c (QX F Q) t L
  | .skip, sc, S, Q, ρ, t, L, h, hR => J.skip ⟨ρ, S, hR, by simpa [xwp] using h⟩
  | .region id ops draw, sc, S, Q, ρ, t, L, h, hR => by
    simp only [xwp] at h
    have e : ops = ops.toList.toArray := by simp
    refine xcas_ok _ _ h hR fun S _ h hR => ?_
    split at h
    · rw [e]
      refine J.region ?_
      split at h
      · exact xgf_ok (N := N) (ops := ops.toList.toArray) (Q := QX F Q) hX ops.toList S [] _ ρ t L (by simpa using h) hR (DA.nil _) (fun ρ' S' t' L' hR' hq => ⟨ρ', S', hR', hq⟩)
      have := xgo_ok (N := N) (ops := ops.toList.toArray) (Q := QX F Q) hX ops.toList S [] _ ρ t L (by simpa using h) hR (GA.nil _ _) (fun ρ' S' t' L' hR' hq => ⟨ρ', S', hR', hq⟩)
      exact this
    · obtain ⟨ann, S', t', L', i1, i2, i3, i4, i5, i6⟩ := xdr_ok (N := N) (ops := ops) (D := L) hX S.nx (ops.toList.take (drawN ops.toList)) S [] [] _ t L h hR (GA.nil _ _)
      split at i4
      · rename_i hB
        rw [List.append_nil, List.reverse_reverse] at hB
        rw [e]
        refine J.drawS (tbOf ρ S.nx) ann hX.M hB i6 i1 ?_ ?_ ?_
        · have use : ∀ k x, x ∈ (ann.getD k ([], none)).1 ∨ (ann.getD k ([], none)).2 = some x → (findR S.h x).isSome = true := by
            intro k x hx
            rw [List.getD_eq_getElem?_getD] at hx
            cases hk : ann[k]? with
            | none => rw [hk] at hx; simp at hx
            | some a => rw [hk] at hx; exact (i5 a (List.mem_of_getElem? hk)).1 x hx
          intro k x y hx j hy hxy
          exact tbOf_inj hR (use k x hx) (use j y hy) hxy
        · intro k x hx
          rw [List.getD_eq_getElem?_getD] at hx
          cases hk : ann[k]? with
          | none => rw [hk] at hx; simp at hx
          | some a =>
            rw [hk] at hx
            obtain ⟨a1, a2⟩ := i5 a (List.mem_of_getElem? hk)
            obtain ⟨g, hg⟩ := a2 x hx
            have hs := a1 x (.inr hx)
            have e1 : tbOf ρ S.nx x = g := by simp [tbOf, hg]
            rw [e1, rowsOf_ok hR x g hg hs]
            rfl
        · have e3 : ops.toList.toArray = ops := by simp
          rw [e3]
          refine JD.mono i2 fun t2 L2 ⟨e1, e2⟩ => ?_
          rw [e1, e2]
          exact xgo_ok (N := N) (ops := ops) (Q := QX F Q) hX _ S' [] _ ρ t' L' i4 i3 (GA.nil _ _) (fun ρ' S'' t'' L'' hR' hq => ⟨ρ', S'', hR', hq⟩)
      · exact i4.elim
  | .seq a b, sc, S, Q, ρ, t, L, h, hR => by
    simp only [xwp] at h
    refine xcas_ok _ _ h hR fun S sc h hR => ?_
    split at h
    · exact h.elim
    · rename_i cs S1 Jv s1 s2 hp
      obtain ⟨hc, h1, h2⟩ := andK_all _ _ h
      refine pre_ok sc S cs S1 _ ρ t L hp hc hR fun ρ' t' L' hR' => ?_
      refine J.seq ((xwp_ok hX a s1 S1 _ ρ' t' L' h1 hR').mono ?_)
      rintro e t2 L2 ⟨ρ2, S2, hR2, hq⟩
      cases e with
      | normal =>
        obtain ⟨x, hx, hm⟩ := hq
        exact xwp_ok hX b s2 _ Q _ t2 L2 (h2 x hx) (SM_ok hm hR2)
      | _ => exact ⟨ρ2, S2, hR2, hq⟩
    · rename_i cs S1 sc' hneg hp
      obtain ⟨hc, h1⟩ := andK_all _ _ h
      refine pre_ok sc S cs S1 _ ρ t L hp hc hR fun ρ' t' L' hR' => ?_
      refine J.seq ((xwp_ok hX a _ S1 _ ρ' t' L' h1 hR').mono ?_)
      rintro e t2 L2 ⟨ρ2, S2, hR2, hq⟩
      cases e with
      | normal => exact xwp_ok hX b _ S2 Q ρ2 t2 L2 hq hR2
      | _ => exact ⟨ρ2, S2, hR2, hq⟩
  | .cond o a b, sc, S, Q, ρ, t, L, h, hR => by
    simp only [xwp] at h
    split at h
    · rename_i p c heq
      obtain ⟨hc, h2⟩ := andK_all _ _ h
      clear h
      have hv := st_none (xev_ok hR o) (by rw [heq]; exact hc)
      rw [heq] at hv
      simp only [RV] at hv
      split at h2
      · obtain ⟨hcc, h3⟩ := h2
        rw [hcc] at hv
        exact J.ifT hv (xwp_ok hX a _ S Q ρ t L h3 hR)
      · obtain ⟨hcc, h3⟩ := h2
        rw [hcc] at hv
        exact J.ifF hv (xwp_ok hX b _ S Q ρ t L h3 hR)
      · cases c with
        | true => exact J.ifT hv (xwp_ok hX a _ S Q ρ t L h2 hR)
        | false => exact J.ifF hv (xwp_ok hX b _ S Q ρ t L h2 hR)
      · exact J.cond hv (fun hh => xwp_ok hX a _ S Q ρ t L (h2.1 hh) hR) (fun hh => xwp_ok hX b _ S Q ρ t L (h2.2 hh) hR)
    · exact h.elim
  | .block id c, sc, S, Q, ρ, t, L, h, hR => by
    simp only [xwp] at h
    refine J.block ((xwp_ok hX c _ S _ ρ t L h hR).mono ?_)
    rintro e t2 L2 ⟨ρ2, S2, hR2, hq⟩
    cases e with
    | exit j =>
      simp only [inbX, beqN] at hq
      simp only [inb]
      by_cases hj : j = id
      · rw [decide_eq_true hj, cond_true] at hq
        rw [if_pos hj]
        exact ⟨ρ2, S2, hR2, hq⟩
      · rw [decide_eq_false hj, cond_false] at hq
        rw [if_neg hj]
        exact ⟨ρ2, S2, hR2, hq⟩
    | _ => exact ⟨ρ2, S2, hR2, hq⟩
  | .loop c, sc, S, Q, ρ, t, L, h, hR => by
    simp only [xwp] at h
    split at h
    · rename_i I s
      obtain ⟨⟨x0, hx0, hm0⟩, h⟩ := h
      refine J.loop (fun n t L => ∃ x ρ, I.inv x ∧ I.μ x = n ∧ Rel F ρ (I.S x) t L) (I.μ x0) ⟨x0, _, hx0, rfl, SM_ok hm0 hR⟩ ?_
      rintro n t1 L1 ⟨x, ρ1, hx, rfl, hR1⟩
      refine (xwp_ok hX c s _ _ ρ1 t1 L1 (h x hx) hR1).mono ?_
      rintro e t2 L2 ⟨ρ2, S2, hR2, hq⟩
      cases e with
      | normal =>
        obtain ⟨x', hx', hlt, hm⟩ := hq
        exact ⟨I.μ x', hlt, x', _, hx', rfl, SM_ok hm hR2⟩
      | _ => exact ⟨ρ2, S2, hR2, hq⟩
    · rename_i P s
      obtain ⟨p, ⟨x0, hx0, hm0⟩, h⟩ := h
      refine J.loop (fun n t L => ∃ x ρ, (P.J p).inv x ∧ (P.J p).μ x = n ∧ Rel F ρ ((P.J p).S x) t L) ((P.J p).μ x0) ⟨x0, _, hx0, rfl, SM_ok hm0 hR⟩ ?_
      rintro n t1 L1 ⟨x, ρ1, hx, rfl, hR1⟩
      refine (xwp_ok hX c s _ _ ρ1 t1 L1 (h x hx) hR1).mono ?_
      rintro e t2 L2 ⟨ρ2, S2, hR2, hq⟩
      cases e with
      | normal =>
        obtain ⟨x', hx', hlt, hm⟩ := hq
        exact ⟨(P.J p).μ x', hlt, x', _, hx', rfl, SM_ok hm hR2⟩
      | _ => exact ⟨ρ2, S2, hR2, hq⟩
    · rename_i n s
      refine J.loop (fun n t L => ∃ S ρ, Rel F ρ S t L ∧ xroll (fun S Q => xwp X N c s S Q) Q n S) n ⟨S, ρ, hR, h⟩ ?_
      rintro n t1 L1 ⟨S1, ρ1, hR1, hq1⟩
      cases n with
      | zero => exact hq1.elim
      | succ n =>
        refine (xwp_ok hX c s S1 _ ρ1 t1 L1 hq1 hR1).mono ?_
        rintro e t2 L2 ⟨ρ2, S2, hR2, hq⟩
        cases e with
        | normal => exact ⟨n, by omega, S2, ρ2, hR2, hq⟩
        | _ => exact ⟨ρ2, S2, hR2, hq⟩
    · exact h.elim
  | .exit id, sc, S, Q, ρ, t, L, h, hR => J.exit ⟨ρ, S, hR, by simpa [xwp] using h⟩
  | .ret, sc, S, Q, ρ, t, L, h, hR => J.ret ⟨ρ, S, hR, by simpa [xwp] using h⟩
  | .rangeFunc .., sc, S, Q, ρ, t, L, h, hR => by simp [xwp] at h
  | .scope _, sc, S, Q, ρ, t, L, h, hR => by simp [xwp] at h
  | .label _, sc, S, Q, ρ, t, L, h, hR => by simp [xwp] at h
  | .goto _, sc, S, Q, ρ, t, L, h, hR => by simp [xwp] at h
  | .refuse _, sc, S, Q, ρ, t, L, h, hR => by simp [xwp] at h
end
end Go.Proofs.YtghmlhdlkgjbeaaDoorAv
set_option linter.unusedVariables false
set_option linter.unusedSimpArgs false
namespace Go.Proofs.YtghmlhdlkgjbeaaDoorAv
open Go Go.RowKit
/-- What a function leaves, told in other words. -/
theorem JF.conv {P : Program} {f : FuncId} {args : List AV} {L : GH} {R R2 : AV → GH → Prop} (h : JF P f args L R)
    (k : ∀ v L1 w x, R v L1 → (∀ g r, L1 g = some r → RowR L1 w g r) → VS L1 w v x → ∃ v2 L2, VS L2 w v2 x ∧ (∀ g r, L2 g = some r → RowR L2 w g r) ∧ (∀ b, L1 b = none → L2 b = none) ∧ R2 v2 L2) : JF P f args L R2 :=
  fun w xs hg hv hw => (h w xs hg hv hw).mono fun e w' ⟨v, x, L1, he, hv, hrows, hx, hr⟩ => by
    obtain ⟨v2, L2, h1, h2, h3, h4⟩ := k v L1 w' x hr hrows hv
    exact ⟨v2, x, L2, he, h1, h2, hx.trans (Ext.drop w' h3), h4⟩
section
variable {P : Program} {ρ : Rho} {F : Fr} {S : XS} {t : TM} {L : GH} {w : World}
mutual
theorem RV.pd {ρ : Rho} : ∀ (x : XV) (b : AV), x.pd = true → RV ρ x b → b = toAV x
  | .v a, b, _, k => by simpa [RV, toAV] using k
  | .fz n sz f, b, _, k => by simpa [RV] using k
  | .agg cs, b, h, k => by
    simp only [XV.pd] at h
    simp only [RV] at k
    obtain ⟨bs, rfl, hr⟩ := k
    rw [toAV, RVL.pd cs bs h hr]
  | .tup cs, b, h, k => by
    simp only [XV.pd] at h
    simp only [RV] at k
    obtain ⟨bs, rfl, hr⟩ := k
    rw [toAV, RVL.pd cs bs h hr]
  | .sl .., b, h, _ => by simp [XV.pd] at h
  | .ptr .., b, h, _ => by simp [XV.pd] at h
  | .fp .., b, h, _ => by simp [XV.pd] at h
  | .fsel .., b, h, _ => by simp [XV.pd] at h
  | .gd .., b, h, _ => by simp [XV.pd] at h
  | .top, b, h, _ => by simp [XV.pd] at h
theorem RVL.pd {ρ : Rho} : ∀ (cs : List XV) (bs : List AV), pdL cs = true → RVL ρ cs bs → bs = toAVL cs
  | [], [], _, _ => rfl
  | c :: cs, b :: bs, h, k => by
    simp only [pdL, Bool.and_eq_true] at h
    simp only [RVL] at k
    rw [toAVL, ← RV.pd c b h.1 k.1, ← RVL.pd cs bs h.2 k.2]
  | [], _ :: _, _, k => by simp [RVL] at k
  | _ :: _, [], _, k => by simp [RVL] at k
end
mutual
theorem pd_RV (ρ : Rho) : ∀ (x : XV), x.pd = true → RV ρ x (toAV x)
  | .v a, _ => by simp [RV, toAV]
  | .fz n sz f, _ => by simp [RV]
  | .agg cs, h => by
    simp only [XV.pd] at h
    simp only [RV, toAV]
    exact ⟨_, rfl, pd_RVL ρ cs h⟩
  | .tup cs, h => by
    simp only [XV.pd] at h
    simp only [RV, toAV]
    exact ⟨_, rfl, pd_RVL ρ cs h⟩
  | .sl .., h => by simp [XV.pd] at h
  | .ptr .., h => by simp [XV.pd] at h
  | .fp .., h => by simp [XV.pd] at h
  | .fsel .., h => by simp [XV.pd] at h
  | .gd .., h => by simp [XV.pd] at h
  | .top, h => by simp [XV.pd] at h
theorem pd_RVL (ρ : Rho) : ∀ (cs : List XV), pdL cs = true → RVL ρ cs (toAVL cs)
  | [], _ => by simp [RVL, toAVL]
  | c :: cs, h => by
    simp only [pdL, Bool.and_eq_true] at h
    simp only [RVL, toAVL]
    exact ⟨pd_RV ρ c h.1, pd_RVL ρ cs h.2⟩
end
/-- L2 tells no block that is one of the state's own. -/
def Off (ρ : Rho) (S : XS) (L2 : GH) : Prop := ∀ id g e ap n sz f, findR S.h id = some (.vec e ap n sz f) → ρ id = some (some g) → L2 g = none
theorem VS_fz0 {L : GH} {w : World} (f : Nat → List AV) (sz : Nat) : VS L w (.fz 0 (vecOf 0 sz f)) (.slice none 0 0) := by
  simp only [VS]
  exact ⟨none, 0, [], rfl, Nat.le_refl _, .inl rfl, by simp [vecOf, VSL]⟩
mutual
/-- What a result is, is what it is told to be. -/
theorem RX_VS (hR : Rel F ρ S t L) (hrows : ∀ g r, L g = some r → RowR L w g r) {L2 : GH} (hd : ∀ b, L b = none → L2 b = none) (ho : Off ρ S L2) : ∀ (y : XV) (x : XV) (b : AV) (z : Value), y.pd = true → RX S x y → RV ρ x b → VS L w b z → VS L2 w (toAV y) z
  | .v a, x, b, z, hp, h, k, hz => by
    have hx : x = .v a := by
      unfold RX at h
      split at h <;> first | exact VM_eq h | (rename_i heq; cases heq) | (rename_i heq _; cases heq)
    subst hx
    simp only [RV] at k
    subst k
    exact VS.ext (Ext.drop w hd) _ _ hz
  | .fz n' sz' g, x, b, z, hp, h, k, hz => by
    unfold RX at h
    split at h
    · rename_i id sz n n2 sz2 g2 heq
      injection heq with q1 q2 q3
      subst q1 q2 q3
      split at h
      · rename_i e m s f hf
        obtain ⟨⟨rfl, rfl⟩, rfl, rfl, hfg⟩ := h
        have hvec : vecOf m s (fun i => toAVL (f i)) = vecOf m s fun i => toAVL (g i) := vecOf_congr fun j hj => by rw [hfg j hj]
        simp only [RV] at k
        rcases k with ⟨g0, hg, rfl⟩ | ⟨hg, rfl, -, rfl⟩
        · obtain ⟨row, hL, hrow⟩ := (hR.rw id _ hf).some_g hg
          simp only [RRow] at hrow
          subst hrow
          have hoff := ho id g0 _ _ _ _ _ hf hg
          simp only [toAV]
          rw [← hvec]
          -- as a slice that is only read
          simp only [VS, Nat.zero_mul] at hz ⊢
          obtain ⟨a, cap, rfl, hn, hc⟩ := hz
          obtain ⟨c, fr, vs, hh, _, _, hle, hvs, hv, h1⟩ := hrows g0 _ hL
          refine ⟨a, cap, vs, rfl, hn, ?_, VSL.ext (Ext.drop w hd) _ _ hv⟩
          rcases hc with hc | ⟨rfl, _⟩
          · left
            have : m = 0 := by omega
            have hl := hv.length
            simp only [vecOf_length] at hl
            rw [this, Nat.zero_mul] at hl
            exact List.length_eq_zero_iff.1 hl.symm
          · refine .inr ⟨_, rfl, hoff, h1, fun i v hi => ?_⟩
            rw [add_plain, Nat.zero_add]
            rw [hvs, List.getElem?_take] at hi
            split at hi
            · simp only [World.cell?, hh]
              simpa using hi
            · cases hi
        · simp only [VS] at hz
          subst hz
          exact VS_fz0 _ _
      · exact h.elim
    · rename_i n2 sz2 g2 heq
      injection heq with q1 q2 q3
      subst q1 q2 q3
      subst h
      simp only [RV] at k
      subst k
      simp only [VS] at hz
      subst hz
      exact VS_fz0 _ _
    · rename_i n sz f n2 sz2 g2 heq
      injection heq with q1 q2 q3
      subst q1 q2 q3
      obtain ⟨rfl, rfl, hfg⟩ := h
      simp only [RV, toAV] at k
      subst k
      simp only [toAV]
      rw [← vecOf_congr (g := fun i => toAVL (f i)) fun j hj => by rw [hfg j hj]]
      exact VS.ext (Ext.drop w hd) _ _ hz
    · rename_i heq; cases heq
    · rename_i heq; cases heq
    · have := VM_eq h
      subst this
      have := RV.pd _ _ hp k
      subst this
      exact VS.ext (Ext.drop w hd) _ _ hz
  | .agg ds, x, b, z, hp, h, k, hz => by
    unfold RX at h
    split at h
    · rename_i heq; cases heq
    · rename_i heq; cases heq
    · rename_i heq; cases heq
    · rename_i cs ds2 heq
      injection heq with heq
      subst heq
      simp only [RV] at k
      obtain ⟨bs, rfl, hr⟩ := k
      simp only [VS] at hz
      obtain ⟨vs, rfl, hv⟩ := hz
      simp only [toAV, VS]
      simp only [XV.pd] at hp
      exact ⟨vs, rfl, RXL_VS hR hrows hd ho ds _ _ _ hp h hr hv⟩
    · rename_i heq; cases heq
    · have := VM_eq h
      subst this
      have := RV.pd _ _ hp k
      subst this
      exact VS.ext (Ext.drop w hd) _ _ hz
  | .tup ds, x, b, z, hp, h, k, hz => by
    unfold RX at h
    split at h
    · rename_i heq; cases heq
    · rename_i heq; cases heq
    · rename_i heq; cases heq
    · rename_i heq; cases heq
    · rename_i cs ds2 heq
      injection heq with heq
      subst heq
      simp only [RV] at k
      obtain ⟨bs, rfl, hr⟩ := k
      simp only [VS] at hz
      obtain ⟨vs, rfl, hv⟩ := hz
      simp only [toAV, VS]
      simp only [XV.pd] at hp
      exact ⟨vs, rfl, RXL_VS hR hrows hd ho ds _ _ _ hp h hr hv⟩
    · have := VM_eq h
      subst this
      have := RV.pd _ _ hp k
      subst this
      exact VS.ext (Ext.drop w hd) _ _ hz
  | .sl .., x, b, z, hp, _, _, _ => by simp [XV.pd] at hp
  | .ptr .., x, b, z, hp, _, _, _ => by simp [XV.pd] at hp
  | .fp .., x, b, z, hp, _, _, _ => by simp [XV.pd] at hp
  | .fsel .., x, b, z, hp, _, _, _ => by simp [XV.pd] at hp
  | .gd .., x, b, z, hp, _, _, _ => by simp [XV.pd] at hp
  | .top, x, b, z, hp, _, _, _ => by simp [XV.pd] at hp
theorem RXL_VS (hR : Rel F ρ S t L) (hrows : ∀ g r, L g = some r → RowR L w g r) {L2 : GH} (hd : ∀ b, L b = none → L2 b = none) (ho : Off ρ S L2) : ∀ (ys : List XV) (xs : List XV) (bs : List AV) (zs : List Value), pdL ys = true → RXL S xs ys → RVL ρ xs bs → VSL L w bs zs → VSL L2 w (toAVL ys) zs
  | [], [], [], [], _, _, _, _ => by simp [toAVL, VSL]
  | y :: ys, x :: xs, b :: bs, z :: zs, hp, h, k, hz => by
    simp only [pdL, Bool.and_eq_true] at hp
    simp only [RXL] at h
    simp only [RVL] at k
    simp only [VSL] at hz
    simp only [toAVL, VSL]
    exact ⟨RX_VS hR hrows hd ho y x b z hp.1 h.1 k.1 hz.1, RXL_VS hR hrows hd ho ys xs bs zs hp.2 h.2 k.2 hz.2⟩
  | [], _ :: _, _, _, _, h, _, _ => by simp [RXL] at h
  | _ :: _, [], _, _, _, h, _, _ => by simp [RXL] at h
  | [], [], _ :: _, _, _, _, k, _ => by simp [RVL] at k
  | _ :: _, _ :: _, [], _, _, _, k, _ => by simp [RVL] at k
  | [], [], [], _ :: _, _, _, _, hz => by simp [VSL] at hz
  | _ :: _, _ :: _, _ :: _, [], _, _, _, hz => by simp [VSL] at hz
end
theorem xres_ok {X : Cx} (hX : X.ok P) (hR : Rel F ρ S t L) : ∀ {rs : List ResultVar} {vs : List XV}, xress X S rs = some vs → ∃ bs, outsC P t L rs bs ∧ RVL ρ vs bs
  | [], vs, h => by
    simp only [xress, Option.some.injEq] at h
    subst h
    exact ⟨[], trivial, by simp [RVL]⟩
  | r :: rs, vs, h => by
    simp only [xress] at h
    split at h
    · rename_i v vs' h1 h2
      obtain rfl := Option.some.inj h
      obtain ⟨bs, k1, k2⟩ := xres_ok hX hR h2
      have : ∃ b, outC P t L r b ∧ RV ρ v b := by
        cases r with
        | tmp s =>
          simp only [xres, Option.some.injEq] at h1
          subst h1
          exact ⟨t s, rfl, hR.sl s⟩
        | cell c T =>
          simp only [xres] at h1
          split at h1
          · rename_i id o a z m b hl ha hi
            have hc := hR.sl c
            rw [hl] at hc
            simp only [RV] at hc
            obtain ⟨g, hg, hc⟩ := hc
            obtain ⟨u, hu, hag⟩ : ∃ u, P.underlying T = some u ∧ aggT u = a := by
              unfold aggB at ha
              split at ha
              · rename_i u hu; exact ⟨u, okU_fnd hX.U hu, Option.some.inj ha⟩
              · cases ha
            have hI := okI_fnd hX.I hi
            split at h1
            · rename_i e ap cs hf
              obtain ⟨row, hL, hrow⟩ := (hR.rw id _ hf).some_g hg
              simp only [RRow] at hrow
              obtain ⟨-, -, hrow⟩ := hrow
              have hlen := hrow.length
              split at h1
              · split at h1
                · rename_i hle
                  obtain rfl := Option.some.inj h1
                  rw [bleN, decide_eq_true_eq, xlen_eq] at hle
                  have hm : ((row.cs.drop o).take m).length = m := by rw [List.length_take, List.length_drop]; omega
                  refine ⟨.agg ((row.cs.drop o).take m), ⟨g, o, row, u, by simpa using hc, hL, hu, .inl ⟨hag, z, b, (row.cs.drop o).take m, by rw [hm]; exact hI, by rw [hm], by rw [hm]; omega, rfl⟩⟩, ?_⟩
                  simp only [RV]
                  exact ⟨_, rfl, by rw [xtake_eq, xdrop_eq]; exact (hrow.drop o).take m⟩
                · cases h1
              · split at h1
                · rename_i hlt
                  obtain rfl := Option.some.inj h1
                  obtain ⟨b', hb, hv⟩ := hrow.getD' o hlt
                  exact ⟨b', ⟨g, o, row, u, by simpa using hc, hL, hu, .inr ⟨hag, hb⟩⟩, hv⟩
                · cases h1
            · cases h1
          · cases h1
      obtain ⟨b, e1, e2⟩ := this
      exact ⟨b :: bs, ⟨e1, k1⟩, by simp only [RVL]; exact ⟨e2, k2⟩⟩
    · cases h
theorem xout_ok : ∀ {vs : List XV} {bs : List AV}, RVL ρ vs bs → RV ρ (xout vs) (out1 bs)
  | [], [], h => by simp only [xout, out1, RV]; exact ⟨_, rfl, h⟩
  | [v], [b], h => by simp only [RVL] at h; exact h.1
  | v :: v2 :: vs, b :: b2 :: bs, h => by simp only [xout, out1, RV]; exact ⟨_, rfl, h⟩
  | [v], b :: b2 :: bs, h => by simp [RVL] at h
  | v :: v2 :: vs, [b], h => by simp [RVL] at h
  | [], _ :: _, h => by simp [RVL] at h
  | _ :: _, [], h => by simp [RVL] at h
/-- A function, run. -/
theorem fun_ok {X : Cx} (hX : X.ok P) {f : FuncId} {fn : Func} {c : Code} (hf : P.funcs[f]? = some fn) (hb : fn.body = some c) {bs : List AV} (hn : bs.length ≤ fn.ntmps) {sc : Sc} {R : XV → XS → Prop} (hR : Rel F ρ S (tm0 bs) L) (h : xwp X fn.ntmps c sc S (retX X fn.results.toList R)) :
    JF P f bs L fun v L1 => ∃ ρ' S' t' xv, Rel F ρ' S' t' L1 ∧ RV ρ' xv v ∧ R xv S' := by
  refine JF.bodyC hf hb hn ((xwp_ok hX c sc S _ ρ _ L h hR).mono ?_)
  rintro e t1 L1 ⟨ρ1, S1, hR1, hq⟩
  have fin : (match xress X S1 fn.results.toList with | some vs => R (xout vs) S1.pl | none => False) → ∃ vs L', outsC P t1 L1 fn.results.toList vs ∧ (∀ g r, L' g = some r → L1 g = some r) ∧ ∃ ρ' S' t' xv, Rel F ρ' S' t' L' ∧ RV ρ' xv (out1 vs) ∧ R xv S' := by
    intro hq
    split at hq
    · rename_i vs hvs
      obtain ⟨bs, k1, k2⟩ := xres_ok hX hR1 hvs
      exact ⟨bs, L1, k1, fun _ _ h => h, ρ1, S1.pl, t1, xout vs, hR1.pl, xout_ok k2, hq⟩
    · exact hq.elim
  cases e with
  | normal => exact fin hq
  | ret => exact fin hq
  | _ => exact hq.elim
theorem look_slots {ρ : Rho} : ∀ {args : List XV} {bs : List AV} (k : Nat), RVL ρ args bs → ∀ i, RV ρ (look (xslots k args) i) (if k ≤ i then bs.getD (i - k) .top else .top) ∨ look (xslots k args) i = .top
  | [], [], k, _, i => .inr rfl
  | x :: args, b :: bs, k, h, i => by
    simp only [RVL] at h
    simp only [xslots]
    rw [look_put]
    by_cases hi : i = k
    · rw [if_pos hi, if_pos (by omega), hi]
      left
      simpa using h.1
    · rw [if_neg hi]
      rcases look_slots (k + 1) h.2 i with h1 | h1
      · by_cases hk : k + 1 ≤ i
        · rw [if_pos hk] at h1
          left
          rw [if_pos (by omega), show i - k = (i - (k + 1)) + 1 by omega]
          simpa using h1
        · rw [if_neg hk] at h1
          left
          rw [if_neg (by omega)]
          exact h1
      · exact .inr h1
  | [], _ :: _, _, h, _ => by simp [RVL] at h
  | _ :: _, [], _, h, _ => by simp [RVL] at h
def noRho : Rho := fun _ => none
theorem rel0 {args : List XV} {bs : List AV} (h : RVL noRho args bs) : Rel ⟨L, 0, []⟩ noRho ⟨xslots 0 args, [], 0, false, []⟩ (tm0 bs) L := by
  refine ⟨fun i => ?_, fun id r h => by simp [findR] at h, fun id _ _ h => by simp [findR] at h, fun _ _ => rfl, fun b r h => ⟨h, fun id hi => by simp [findR] at hi⟩, fun h => (by cases h), by simp [RVL]⟩
  rcases look_slots 0 h i with h1 | h1
  · simpa [tm0] using h1
  · show RV _ (look (xslots 0 args) i) _
    rw [h1]; simp [RV]
theorem off_F (hR : Rel F ρ S t L) : Off ρ S F.F := by
  intro id g e ap n sz f hf hg
  cases hF : F.F g with
  | none => rfl
  | some r => exact absurd hg ((hR.fr g r hF).2 id (by rw [hf]; rfl))
theorem dom_F (hR : Rel F ρ S t L) : ∀ b, L b = none → F.F b = none := by
  intro b hb
  cases hF : F.F b with
  | none => rfl
  | some r => rw [(hR.fr b r hF).1] at hb; cases hb
theorem rows_F (hR : Rel F ρ S t L) (hrows : ∀ g r, L g = some r → RowR L w g r) : ∀ g r, F.F g = some r → RowR F.F w g r := fun g r hg =>
  (hrows g r (hR.fr g r hg).1).ext (Ext.drop w (dom_F hR)) rfl
/-- A variable of the state's own is handed out, beside what is another's. -/
theorem row_out (hR : Rel F ρ S t L) (hrows : ∀ g r, L g = some r → RowR L w g r) {id g : Nat} {T : TypeId} {ap : Bool} {cells : List XV} (hg : ρ id = some (some g)) (h : rowIs S id T ap cells) (hp : pdL cells = true) :
    (∀ b r, upd F.F g ⟨T, ap, toAVL cells⟩ b = some r → RowR (upd F.F g ⟨T, ap, toAVL cells⟩) w b r) ∧ (∀ b, L b = none → upd F.F g ⟨T, ap, toAVL cells⟩ b = none) ∧ Off ρ S (upd F.F g ⟨T, ap, toAVL cells⟩) ∧ F.F g = none := by
  unfold rowIs at h
  split at h
  · rename_i e ap' ds hf
    obtain ⟨⟨rfl, rfl⟩, h⟩ := h
    obtain ⟨row, hL, hrow⟩ := (hR.rw id _ hf).some_g hg
    simp only [RRow] at hrow
    obtain ⟨q1, q2, q3⟩ := hrow
    have hFg : F.F g = none := by
      cases hF : F.F g with
      | none => rfl
      | some r => exact absurd hg ((hR.fr g r hF).2 id (by rw [hf]; rfl))
    have hd : ∀ b, L b = none → upd F.F g ⟨e, ap', toAVL cells⟩ b = none := by
      intro b hb
      rw [upd_ne]
      · exact dom_F hR b hb
      · rintro rfl; rw [hL] at hb; cases hb
    have ho : Off ρ S (upd F.F g ⟨e, ap', toAVL cells⟩) := by
      intro id' g' e' ap2 n sz f hf' hg'
      rw [upd_ne]
      · exact off_F hR id' g' _ _ _ _ _ hf' hg'
      · rintro rfl
        have := hR.inj id' id _ (by rw [hf']; rfl) (by rw [hf]; rfl) hg' hg
        subst this
        rw [hf] at hf'; cases hf'
    refine ⟨fun b r hb => ?_, hd, ho, hFg⟩
    by_cases hbg : b = g
    · subst hbg
      rw [upd_same] at hb
      obtain rfl := Option.some.inj hb
      obtain ⟨c, fr, vs, hh, ha, hfz, hle, hvs, hv, h1⟩ := hrows b row hL
      have hv2 := RXL_VS hR hrows hd ho cells ds row.cs vs hp h q3 hv
      have hlen : (toAVL cells).length = row.cs.length := by rw [hv2.length, ← hv.length]
      refine ⟨c, fr, vs, by rw [← q1]; exact hh, fun h => ha (by rw [q2]; exact h), hfz, by rw [hlen]; exact hle, by rw [hlen]; exact hvs, hv2, h1⟩
    · rw [upd_ne _ _ _ _ hbg] at hb
      exact (hrows b r (hR.fr b r hb).1).ext (Ext.drop w hd) rfl
  · exact h.elim
/-- A contract out of a symbolic run. -/
theorem ct_ok {X : Cx} (hX : X.ok P) {f : FuncId} {fn : Func} (hf : P.funcs[f]? = some fn) (hb : fn.body = some (bodyOf fn)) (hr : (fn.name == "runtime.NumGoroutine") = false) {C : CT}
    (h : ∀ args cs v, C args = some (cs, v) → (∀ p ∈ cs, p) → Nat.ble args.length fn.ntmps = true ∧ pdL args = true ∧ v.pd = true ∧ ∃ sc, funC X fn sc args v) : CTok P f C := by
  refine ⟨⟨fn, bodyOf fn, hf, hb, hr⟩, fun args cs v hC hc ρ bs hargs => ?_⟩
  obtain ⟨h0, h1, h2, sc, h3⟩ := h args cs v hC hc
  have hbs := RVL.pd _ _ h1 hargs
  subst hbs
  refine ⟨toAV v, pd_RV ρ v h2, fun L => ?_⟩
  rw [bleN, decide_eq_true_eq] at h0
  refine (fun_ok hX hf hb (by rw [toAVL_length]; exact h0) (rel0 (pd_RVL noRho args h1)) h3).conv ?_
  rintro b L1 w x ⟨ρ', S', t', xv, hR, hv, hq⟩ hrows hx
  exact ⟨toAV v, L, RX_VS hR hrows (dom_F hR) (off_F hR) v xv b x h2 hq hv hx, rows_F hR hrows, dom_F hR, rfl, rfl⟩
theorem ht_ok {X : Cx} (hX : X.ok P) {f : FuncId} {fn : Func} (hf : P.funcs[f]? = some fn) (hb : fn.body = some (bodyOf fn)) (hr : (fn.name == "runtime.NumGoroutine") = false) {H : HT}
    (h : ∀ cells rest cs v o, H cells rest = some (cs, v, o) → (∀ p ∈ cs, p) → Nat.ble (rest.length + 1) fn.ntmps = true ∧ pdL cells = true ∧ pdL rest = true ∧ v.pd = true ∧ pdL (o.getD cells) = true ∧ ∃ sc, ∀ e ap, funH X fn sc e ap cells rest v (o.getD cells)) : HTok P f H := by
  refine ⟨⟨fn, bodyOf fn, hf, hb, hr⟩, fun cells rest cs v o hH hc ρ g row bs hcells hrest => ?_⟩
  obtain ⟨h0, h1, h2, h3, h4, sc, h6⟩ := h cells rest cs v o hH hc
  have hbs := RVL.pd _ _ h2 hrest
  have hcs := RVL.pd _ _ h1 hcells
  subst hbs
  rw [bleN, decide_eq_true_eq] at h0
  refine ⟨toAV v, ⟨row.e, row.ap, toAVL (o.getD cells)⟩, pd_RV ρ v h3, ?_, fun L hL => ?_⟩
  · cases o with
    | none => simp only [Option.getD_none]; rw [← hcs]
    | some cells' => exact ⟨rfl, rfl, pd_RVL ρ _ h4⟩
  · have hR0 : Rel ⟨del L g, g, []⟩ (fun i => if i = 0 then some (some g) else none) ⟨(0, .ptr 0 0 0 0) :: xslots 1 rest, [(0, .one row.e row.ap cells)], 1, true, []⟩ (tm0 (.ptr g 0 :: toAVL rest)) L := by
      refine ⟨fun i => ?_, fun id r hfr => ?_, fun i j g' hi hj _ _ => ?_, fun id hid => ?_, fun b r hb => ?_, fun _ => ⟨by simp, by simp, _, _, _, rfl⟩, by simp [RVL]⟩
      · show RV _ (look ((0, .ptr 0 0 0 0) :: xslots 1 rest) i) _
        rw [look_put]
        by_cases hi : i = 0
        · rw [if_pos hi, hi]
          simp only [RV]
          exact ⟨g, by simp, by simp [tm0]⟩
        · rw [if_neg hi]
          rcases look_slots 1 (pd_RVL (fun i => if i = 0 then some (some g) else none) rest h2) i with k | k
          · rw [if_pos (by omega)] at k
            have : tm0 (.ptr g 0 :: toAVL rest) i = (toAVL rest).getD (i - 1) .top := by
              obtain ⟨j, rfl⟩ : ∃ j, i = j + 1 := ⟨i - 1, by omega⟩
              simp [tm0]
            rw [this]; exact k
          · rw [k]; simp [RV]
      · rw [findR_put] at hfr
        by_cases hid : id = 0
        · rw [if_pos hid] at hfr
          obtain rfl := Option.some.inj hfr
          subst hid
          refine .inl ⟨g, row, by simp, hL, ?_⟩
          simp only [RRow]
          refine ⟨trivial, trivial, ?_⟩
          rw [hcs]
          exact pd_RVL _ cells h1
        · rw [if_neg hid] at hfr; simp [findR] at hfr
      · rw [findR_put] at hi hj
        have a1 : i = 0 := by
          by_cases h : i = 0
          · exact h
          · rw [if_neg h] at hi; simp [findR] at hi
        have a2 : j = 0 := by
          by_cases h : j = 0
          · exact h
          · rw [if_neg h] at hj; simp [findR] at hj
        rw [a1, a2]
      · simp only at hid
        rw [if_neg (by omega)]
      · simp only [del] at hb
        split at hb
        · cases hb
        · rename_i hne
          refine ⟨hb, fun id hid => ?_⟩
          by_cases h : id = 0
          · rw [if_pos h]
            intro h2
            exact hne (Option.some.inj (Option.some.inj h2)).symm
          · rw [if_neg h]; simp
    refine (fun_ok hX hf hb (by simp only [List.length_cons, toAVL_length]; exact h0) hR0 (h6 row.e row.ap)).conv ?_
    rintro b L1 w x ⟨ρ', S', t', xv, hR, hv, hq⟩ hrows hx
    split at hq
    · rename_i hpn
      obtain ⟨hq, hrow⟩ := hq
      obtain ⟨p1, -, -⟩ := hR.pin hpn
      obtain ⟨k1, k2, k3, k4⟩ := row_out hR hrows p1 hrow h4
      have e1 : upd (del L g) g ⟨row.e, row.ap, toAVL (o.getD cells)⟩ = upd L g ⟨row.e, row.ap, toAVL (o.getD cells)⟩ := by
        funext b'
        simp only [upd, del]
        split <;> rfl
      rw [← e1]
      exact ⟨toAV v, _, RX_VS hR hrows k2 k3 v xv b x h3 hq hv hx, k1, k2, rfl, rfl⟩
    · exact hq.elim
theorem nt_ok {X : Cx} (hX : X.ok P) {f : FuncId} {fn : Func} (hf : P.funcs[f]? = some fn) (hb : fn.body = some (bodyOf fn)) (hr : (fn.name == "runtime.NumGoroutine") = false) {T : TypeId} {M : NT}
    (h : ∀ args cs cells, M args = some (cs, cells) → (∀ p ∈ cs, p) → Nat.ble args.length fn.ntmps = true ∧ pdL args = true ∧ pdL cells = true ∧ ∃ sc, funN X fn sc args T cells) : NTok P f T M := by
  refine ⟨⟨fn, bodyOf fn, hf, hb, hr⟩, fun args cs cells hM hc ρ bs hargs => ?_⟩
  obtain ⟨h0, h1, h2, sc, h3⟩ := h args cs cells hM hc
  have hbs := RVL.pd _ _ h1 hargs
  subst hbs
  refine ⟨toAVL cells, pd_RVL ρ cells h2, fun L => ?_⟩
  rw [bleN, decide_eq_true_eq] at h0
  refine (fun_ok hX hf hb (by rw [toAVL_length]; exact h0) (rel0 (pd_RVL noRho args h1)) h3).conv ?_
  rintro b L1 w x ⟨ρ', S', t', xv, hR, hv, hq⟩ hrows hx
  unfold ptrIs at hq
  split at hq
  · rename_i id
    simp only [RV] at hv
    obtain ⟨g, hg, rfl⟩ := hv
    obtain ⟨k1, k2, k3, k4⟩ := row_out hR hrows hg hq h2
    refine ⟨.ptr g 0, _, ?_, k1, k2, g, k4, rfl, rfl⟩
    simpa [VS] using hx
  · exact hq.elim
/-- One contract more. -/
theorem Cx.ok.addC {X : Cx} (hX : X.ok P) {f : FuncId} {C : CT} (h : CTok P f C) : ({ X with C := (f, C) :: X.C } : Cx).ok P :=
  ⟨hX.U, hX.I, fun g D hg => by
    simp only [fnd, beqN] at hg
    by_cases e : g = f
    · rw [decide_eq_true e, cond_true] at hg
      obtain rfl := Option.some.inj hg
      rw [e]; exact h
    · rw [decide_eq_false e, cond_false] at hg
      exact hX.C g D hg, hX.H, hX.N, hX.M, hX.L, hX.E⟩
theorem Cx.ok.addH {X : Cx} (hX : X.ok P) {f : FuncId} {C : HT} (h : HTok P f C) : ({ X with H := (f, C) :: X.H } : Cx).ok P :=
  ⟨hX.U, hX.I, hX.C, fun g D hg => by
    simp only [fnd, beqN] at hg
    by_cases e : g = f
    · rw [decide_eq_true e, cond_true] at hg
      obtain rfl := Option.some.inj hg
      rw [e]; exact h
    · rw [decide_eq_false e, cond_false] at hg
      exact hX.H g D hg, hX.N, hX.M, hX.L, hX.E⟩
theorem Cx.ok.addN {X : Cx} (hX : X.ok P) {f : FuncId} {T : TypeId} {C : NT} (h : NTok P f T C) : ({ X with N := (f, T, C) :: X.N } : Cx).ok P :=
  ⟨hX.U, hX.I, hX.C, hX.H, fun g T' D hg => by
    simp only [fnd, beqN] at hg
    by_cases e : g = f
    · rw [decide_eq_true e, cond_true] at hg
      simp only [Option.some.injEq, Prod.mk.injEq] at hg
      obtain ⟨rfl, rfl⟩ := hg
      rw [e]; exact h
    · rw [decide_eq_false e, cond_false] at hg
      exact hX.N g T' D hg, hX.M, hX.L, hX.E⟩
theorem Cx.ok.addL {X : Cx} (hX : X.ok P) {f : FuncId} {C : IT} (h : ITok P f C) : ({ X with L := (f, C) :: X.L } : Cx).ok P :=
  ⟨hX.U, hX.I, hX.C, hX.H, hX.N, hX.M, fun g D hg => by
    simp only [fnd, beqN] at hg
    by_cases e : g = f
    · rw [decide_eq_true e, cond_true] at hg
      obtain rfl := Option.some.inj hg
      rw [e]; exact h
    · rw [decide_eq_false e, cond_false] at hg
      exact hX.L g D hg, hX.E⟩
/-- A function that is entered. -/
theorem inl_ok {X : Cx} (hX : X.ok P) {f : FuncId} {fn : Func} (hf : P.funcs[f]? = some fn) (hb : fn.body = some (bodyOf fn)) (hr : (fn.name == "runtime.NumGoroutine") = false) (sc : List XV → XS → Sc) : ITok P f (inl X fn sc) := by
  refine ⟨⟨fn, _, hf, hb, hr⟩, fun args S K h F ρ t L bs hR ha => ?_⟩
  unfold inl at h
  split at h
  case h_2 => exact h.elim
  rename_i hn
  rw [bleN, decide_eq_true_eq, xlen_eq] at hn
  refine fun_ok hX hf hb (by rw [← ha.length]; exact hn) (S := { S with s := xslots 0 args }) (R := K) ⟨fun i => ?_, hR.rw, hR.inj, hR.nx, hR.fr, hR.pin, hR.gh⟩ h
  rcases look_slots 0 ha i with h1 | h1
  · simpa [tm0] using h1
  · show RV _ (look (xslots 0 args) i) _
    rw [h1]; simp [RV]
theorem exv {X : Cx} {fn : Func} {args : List XV} {v : XV} {p : Prop} {sc : Sc} (e : p = funC X fn sc args v) (h : p) : ∃ sc, funC X fn sc args v := ⟨sc, e ▸ h⟩
theorem exvH {X : Cx} {fn : Func} {c r : List XV} {v : XV} {c' : List XV} {p : TypeId → Bool → Prop} {sc : Sc} (e : ∀ t ap, p t ap = funH X fn sc t ap c r v c') (h : ∀ t ap, p t ap) : ∃ sc, ∀ t ap, funH X fn sc t ap c r v c' := ⟨sc, fun t ap => e t ap ▸ h t ap⟩
theorem exvN {X : Cx} {fn : Func} {args : List XV} {T : TypeId} {c : List XV} {p : Prop} {sc : Sc} (e : p = funN X fn sc args T c) (h : p) : ∃ sc, funN X fn sc args T c := ⟨sc, e ▸ h⟩
theorem via {p q : Prop} (e : p = q) (h : p) : q := by rw [← e]; exact h
theorem in64.mk {i : Int} (h0 : -9223372036854775808 ≤ i) (h1 : i ≤ 9223372036854775807) : in64 i := ⟨h0, h1⟩
/-! Kinds of arguments -/
def DcOk {α : Type} (d : Dc α) : Prop := ∀ x cs a, d.dec x = some (cs, a) → (∀ p ∈ cs, p) → x.pd = true ∧ (d.enc a).pd = true ∧ ∀ L w z, VS L w (toAV x) z → VS L w (toAV (d.enc a)) z
/-- The same, and it stands there just so. -/
def DcEq {α : Type} (d : Dc α) : Prop := ∀ x cs a, d.dec x = some (cs, a) → (∀ p ∈ cs, p) → x.pd = true ∧ (d.enc a).pd = true ∧ toAV x = toAV (d.enc a)
theorem DcEq.ok {α : Type} {d : Dc α} (h : DcEq d) : DcOk d := fun x cs a hd hc => by
  obtain ⟨h1, h2, h3⟩ := h x cs a hd hc
  exact ⟨h1, h2, fun L w z hz => by rw [← h3]; exact hz⟩
theorem dInt_eq : DcEq dInt := fun x cs a h _ => by
  simp only [dInt] at h
  split at h
  · rename_i hi
    simp only [Option.some.injEq, Prod.mk.injEq] at h
    obtain ⟨-, rfl⟩ := h
    rw [intO_eq hi]
    exact ⟨rfl, rfl, rfl⟩
  · cases h
theorem dBool_eq : DcEq dBool := fun x cs a h _ => by
  simp only [dBool] at h
  split at h
  · rename_i hi
    simp only [Option.some.injEq, Prod.mk.injEq] at h
    obtain ⟨-, rfl⟩ := h
    rw [boolO_eq hi]
    exact ⟨rfl, rfl, rfl⟩
  · cases h
theorem dStr_eq : DcEq dStr := fun x cs a h _ => by
  simp only [dStr] at h
  split at h
  · rename_i hi
    simp only [Option.some.injEq, Prod.mk.injEq] at h
    obtain ⟨-, rfl⟩ := h
    rw [strO_eq hi]
    exact ⟨rfl, rfl, rfl⟩
  · cases h
theorem dSl_ok {β : Type} {sz : Nat} {r : List XV → β} {e : β → List XV} {d : β} : DcOk (dSl sz r e d) := fun x cs a h hc => by
  simp only [dSl] at h
  split at h
  · rename_i n s f
    split at h
    · rename_i hb
      rw [beqN, decide_eq_true_eq] at hb
      simp only [Option.some.injEq, Prod.mk.injEq] at h
      obtain ⟨rfl, rfl⟩ := h
      subst hb
      refine ⟨rfl, rfl, fun L w z hz => ?_⟩
      simp only [dSl, sqX, toAV] at hz ⊢
      have := all1 hc
      rw [← vecOf_congr (g := fun i => toAVL (f i)) fun j hj => by rw [← this j hj]]
      exact hz
    · cases h
  · split at h
    · rename_i hn
      simp only [Option.some.injEq, Prod.mk.injEq] at h
      obtain ⟨-, rfl⟩ := h
      rw [nilO_eq hn]
      refine ⟨rfl, rfl, fun L w z hz => ?_⟩
      simp only [toAV, VS] at hz
      rw [hz]
      exact VS_fz0 _ _
    · cases h
theorem JF.weakArgs {f : FuncId} {bs bs' : List AV} {R : AV → GH → Prop} (h : JF P f bs' L R) (k : ∀ w xs, VSL L w bs xs → VSL L w bs' xs) : JF P f bs L R := fun w xs hg hv hw => h w xs hg (k w xs hv) hw
/-- A contract out of a symbolic run; arguments told in other words. -/
theorem ct_ok2 {X : Cx} (hX : X.ok P) {f : FuncId} {fn : Func} (hf : P.funcs[f]? = some fn) (hb : fn.body = some (bodyOf fn)) (hr : (fn.name == "runtime.NumGoroutine") = false) {C : CT}
    (h : ∀ args cs v, C args = some (cs, v) → (∀ p ∈ cs, p) → ∃ args', Nat.ble args'.length fn.ntmps = true ∧ pdL args = true ∧ pdL args' = true ∧ (∀ L w zs, VSL L w (toAVL args) zs → VSL L w (toAVL args') zs) ∧ v.pd = true ∧ ∃ sc, funC X fn sc args' v) : CTok P f C := by
  refine ⟨⟨fn, bodyOf fn, hf, hb, hr⟩, fun args cs v hC hc ρ bs hargs => ?_⟩
  obtain ⟨args', h0, h1, h1', hw, h2, sc, h3⟩ := h args cs v hC hc
  have hbs := RVL.pd _ _ h1 hargs
  subst hbs
  refine ⟨toAV v, pd_RV ρ v h2, fun L => ?_⟩
  rw [bleN, decide_eq_true_eq] at h0
  refine JF.weakArgs ((fun_ok hX hf hb (by rw [toAVL_length]; exact h0) (rel0 (pd_RVL noRho args' h1')) h3).conv ?_) (hw L)
  rintro b L1 w x ⟨ρ', S', t', xv, hR, hv, hq⟩ hrows hx
  exact ⟨toAV v, L, RX_VS hR hrows (dom_F hR) (off_F hR) v xv b x h2 hq hv hx, rows_F hR hrows, dom_F hR, rfl, rfl⟩
/-! Contracts with several ends -/
def ATok (P : Program) (f : FuncId) (C : AT) : Prop :=
  (∃ fn c, P.funcs[f]? = some fn ∧ fn.body = some c ∧ (fn.name == "runtime.NumGoroutine") = false) ∧
  ∀ args cs alts, C args = some (cs, alts) → (∀ p ∈ cs, p) → ∀ ρ bs, RVL ρ args bs → (∀ a ∈ alts, a.2.pd = true) ∧ ∀ L, JF P f bs L fun r L' => L' = L ∧ ∃ a ∈ alts, a.1 ∧ r = toAV a.2
theorem altQ_mem {S : XS} {r : XV} : ∀ {l : List (Prop × XV)}, altQ S r l → ∃ a ∈ l, a.1 ∧ RX S r a.2
  | [], h => h.elim
  | (φ, v) :: l, h => by
    rcases h with ⟨h1, h2⟩ | h
    · exact ⟨(φ, v), by simp, h1, h2⟩
    · obtain ⟨a, ha, k⟩ := altQ_mem h
      exact ⟨a, by simp [ha], k⟩
theorem altK_mem {S : XS} {K : XV → XS → Prop} : ∀ {l : List (Prop × XV)}, altK l S K → ∀ a ∈ l, a.1 → K a.2 S
  | [], _, a, ha, _ => by cases ha
  | (φ, v) :: l, h, a, ha, hp => by
    rcases List.mem_cons.1 ha with rfl | ha
    · exact h.1 hp
    · exact altK_mem h.2 a ha hp
theorem itA_ok {f : FuncId} {C : AT} (h : ATok P f C) : ITok P f (itA C) := by
  obtain ⟨h0, h⟩ := h
  refine ⟨h0, fun args S K hk F ρ t L bs hR ha => ?_⟩
  unfold itA at hk
  split at hk
  · rename_i cs alts hC
    obtain ⟨hc, hk⟩ := andK_all _ _ hk
    obtain ⟨hp, hj⟩ := h args cs alts hC hc ρ bs ha
    refine (hj L).mono ?_
    rintro r L' ⟨rfl, a, ham, hφ, rfl⟩
    exact ⟨ρ, S, t, a.2, hR, pd_RV ρ a.2 (hp a ham), altK_mem hk a ham hφ⟩
  · exact hk.elim
theorem at_ok {X : Cx} (hX : X.ok P) {f : FuncId} {fn : Func} (hf : P.funcs[f]? = some fn) (hb : fn.body = some (bodyOf fn)) (hr : (fn.name == "runtime.NumGoroutine") = false) {C : AT}
    (h : ∀ args cs alts, C args = some (cs, alts) → (∀ p ∈ cs, p) → ∃ args', Nat.ble args'.length fn.ntmps = true ∧ pdL args = true ∧ pdL args' = true ∧ (∀ L w zs, VSL L w (toAVL args) zs → VSL L w (toAVL args') zs) ∧ (∀ a ∈ alts, a.2.pd = true) ∧ ∃ sc, funA X fn sc args' alts) : ATok P f C := by
  refine ⟨⟨fn, bodyOf fn, hf, hb, hr⟩, fun args cs alts hC hc ρ bs hargs => ?_⟩
  obtain ⟨args', h0, h1, h1', hw, h2, sc, h3⟩ := h args cs alts hC hc
  have hbs := RVL.pd _ _ h1 hargs
  subst hbs
  refine ⟨h2, fun L => ?_⟩
  rw [bleN, decide_eq_true_eq] at h0
  refine JF.weakArgs ((fun_ok hX hf hb (by rw [toAVL_length]; exact h0) (rel0 (pd_RVL noRho args' h1')) h3).conv ?_) (hw L)
  rintro b L1 w x ⟨ρ', S', t', xv, hR, hv, hq⟩ hrows hx
  obtain ⟨a, ham, hφ, hq⟩ := altQ_mem hq
  exact ⟨toAV a.2, L, RX_VS hR hrows (dom_F hR) (off_F hR) a.2 xv b x (h2 a ham) hq hv hx, rows_F hR hrows, dom_F hR, rfl, a, ham, hφ, rfl⟩
theorem C0_ok {X : Cx} (hX : X.ok P) {f : FuncId} {fn : Func} (hf : P.funcs[f]? = some fn) (hb : fn.body = some (bodyOf fn)) (hr : (fn.name == "runtime.NumGoroutine") = false) {cs : List Prop} {v : XV}
    (hp : v.pd = true) (h : (∀ p ∈ cs, p) → ∃ sc, funC X fn sc [] v) : CTok P f (C0 cs v) := ct_ok2 hX hf hb hr fun args cs' v' hC hc => by
  unfold C0 at hC
  split at hC
  · simp only [Option.some.injEq, Prod.mk.injEq] at hC
    obtain ⟨rfl, rfl⟩ := hC
    exact ⟨[], by simp [bleN], rfl, rfl, fun _ _ _ h => h, hp, h hc⟩
  · cases hC
theorem C1_ok {X : Cx} (hX : X.ok P) {f : FuncId} {fn : Func} (hf : P.funcs[f]? = some fn) (hb : fn.body = some (bodyOf fn)) (hr : (fn.name == "runtime.NumGoroutine") = false) {α : Type} {d : Dc α} {cs : α → List Prop} {v : α → XV}
    (hd : DcOk d) (hn : Nat.ble 1 fn.ntmps = true) (hp : ∀ a, (v a).pd = true) (h : ∀ a, (∀ p ∈ cs a, p) → ∃ sc, funC X fn sc [d.enc a] (v a)) : CTok P f (C1 d cs v) := ct_ok2 hX hf hb hr fun args cs' v' hC hc => by
  unfold C1 at hC
  split at hC
  · split at hC
    · rename_i p a hx
      simp only [Option.some.injEq, Prod.mk.injEq] at hC
      obtain ⟨rfl, rfl⟩ := hC
      obtain ⟨h1, h2, h3⟩ := hd _ p a hx (allL hc)
      refine ⟨[d.enc a], hn, by simp [pdL, h1], by simp [pdL, h2], fun L w zs hz => ?_, hp a, h a (allR hc)⟩
      match zs, hz with
      | [z], hz => simp only [toAVL, VSL] at hz ⊢; exact ⟨h3 L w z hz.1, trivial⟩
      | [], hz => simp [toAVL, VSL] at hz
      | _ :: _ :: _, hz => simp [toAVL, VSL] at hz
    · cases hC
  · cases hC
theorem C2_ok {X : Cx} (hX : X.ok P) {f : FuncId} {fn : Func} (hf : P.funcs[f]? = some fn) (hb : fn.body = some (bodyOf fn)) (hr : (fn.name == "runtime.NumGoroutine") = false) {α β : Type} {d : Dc α} {e : Dc β} {cs : α → β → List Prop} {v : α → β → XV}
    (hd : DcOk d) (he : DcOk e) (hn : Nat.ble 2 fn.ntmps = true) (hp : ∀ a b, (v a b).pd = true) (h : ∀ a b, (∀ p ∈ cs a b, p) → ∃ sc, funC X fn sc [d.enc a, e.enc b] (v a b)) : CTok P f (C2 d e cs v) := ct_ok2 hX hf hb hr fun args cs' v' hC hc => by
  unfold C2 at hC
  split at hC
  · split at hC
    · rename_i p a q b hx hy
      simp only [Option.some.injEq, Prod.mk.injEq] at hC
      obtain ⟨rfl, rfl⟩ := hC
      obtain ⟨h1, h2, h3⟩ := hd _ p a hx (allL hc)
      obtain ⟨k1, k2, k3⟩ := he _ q b hy (allL (allR hc))
      refine ⟨[d.enc a, e.enc b], hn, by simp [pdL, h1, k1], by simp [pdL, h2, k2], fun L w zs hz => ?_, hp a b, h a b (allR (allR hc))⟩
      match zs, hz with
      | [z, z2], hz => simp only [toAVL, VSL] at hz ⊢; exact ⟨h3 L w z hz.1, k3 L w z2 hz.2.1, trivial⟩
      | [], hz => simp [toAVL, VSL] at hz
      | [_], hz => simp [toAVL, VSL] at hz
      | _ :: _ :: _ :: _, hz => simp [toAVL, VSL] at hz
    · cases hC
  · cases hC
theorem C3_ok {X : Cx} (hX : X.ok P) {f : FuncId} {fn : Func} (hf : P.funcs[f]? = some fn) (hb : fn.body = some (bodyOf fn)) (hr : (fn.name == "runtime.NumGoroutine") = false) {α β γ : Type} {d : Dc α} {e : Dc β} {g : Dc γ} {cs : α → β → γ → List Prop} {v : α → β → γ → XV}
    (hd : DcOk d) (he : DcOk e) (hg : DcOk g) (hn : Nat.ble 3 fn.ntmps = true) (hp : ∀ a b c, (v a b c).pd = true) (h : ∀ a b c, (∀ p ∈ cs a b c, p) → ∃ sc, funC X fn sc [d.enc a, e.enc b, g.enc c] (v a b c)) : CTok P f (C3 d e g cs v) := ct_ok2 hX hf hb hr fun args cs' v' hC hc => by
  unfold C3 at hC
  split at hC
  · split at hC
    · rename_i p a q b r c hx hy hz
      simp only [Option.some.injEq, Prod.mk.injEq] at hC
      obtain ⟨rfl, rfl⟩ := hC
      obtain ⟨h1, h2, h3⟩ := hd _ p a hx (allL hc)
      obtain ⟨k1, k2, k3⟩ := he _ q b hy (allL (allR hc))
      obtain ⟨m1, m2, m3⟩ := hg _ r c hz (allL (allR (allR hc)))
      refine ⟨[d.enc a, e.enc b, g.enc c], hn, by simp [pdL, h1, k1, m1], by simp [pdL, h2, k2, m2], fun L w zs hz => ?_, hp a b c, h a b c (allR (allR (allR hc)))⟩
      match zs, hz with
      | [z, z2, z3], hz => simp only [toAVL, VSL] at hz ⊢; exact ⟨h3 L w z hz.1, k3 L w z2 hz.2.1, m3 L w z3 hz.2.2.1, trivial⟩
      | [], hz => simp [toAVL, VSL] at hz
      | [_], hz => simp [toAVL, VSL] at hz
      | [_, _], hz => simp [toAVL, VSL] at hz
      | _ :: _ :: _ :: _ :: _, hz => simp [toAVL, VSL] at hz
    · cases hC
  · cases hC
def DcLOk {α : Type} (d : DcL α) : Prop := ∀ x cs a, d.dec x = some (cs, a) → (∀ p ∈ cs, p) → pdL x = true ∧ (∀ b, pdL (d.enc b) = true) ∧ toAVL x = toAVL (d.enc a)
/-- The same for a function whose first argument is the address of a variable of one's own. -/
theorem ht_ok2 {X : Cx} (hX : X.ok P) {f : FuncId} {fn : Func} (hf : P.funcs[f]? = some fn) (hb : fn.body = some (bodyOf fn)) (hr : (fn.name == "runtime.NumGoroutine") = false) {H : HT}
    (h : ∀ cells rest cs v o, H cells rest = some (cs, v, o) → (∀ p ∈ cs, p) → ∃ cells' rest', Nat.ble (rest'.length + 1) fn.ntmps = true ∧ pdL cells = true ∧ pdL cells' = true ∧ toAVL cells = toAVL cells' ∧ pdL rest = true ∧ pdL rest' = true ∧ (∀ L w zs, VSL L w (toAVL rest) zs → VSL L w (toAVL rest') zs) ∧ v.pd = true ∧
      (match o with | some c => pdL c = true ∧ ∃ sc, ∀ e ap, funH X fn sc e ap cells' rest' v c | none => ∃ sc, ∀ e ap, funH X fn sc e ap cells' rest' v cells')) : HTok P f H := by
  refine ⟨⟨fn, bodyOf fn, hf, hb, hr⟩, fun cells rest cs v o hH hc ρ g row bs hcells hrest => ?_⟩
  obtain ⟨cells', rest', h0, q1, q2, q3, q4, q5, q6, q7, q8⟩ := h cells rest cs v o hH hc
  have e1 := RVL.pd _ _ q1 hcells
  have e2 := RVL.pd _ _ q4 hrest
  subst e2
  -- by the run on the arguments told in other words
  classical
  let H' : HT := fun c r => if c = cells' ∧ r = rest' then some ([], v, o) else none
  have hH' : HTok P f H' := by
    refine ht_ok hX hf hb hr fun c r cs2 v2 o2 h2 _ => ?_
    simp only [H'] at h2
    split at h2
    · rename_i hcr
      obtain ⟨rfl, rfl⟩ := hcr
      simp only [Option.some.injEq, Prod.mk.injEq] at h2
      obtain ⟨-, rfl, rfl⟩ := h2
      cases o with
      | none => obtain ⟨sc, k⟩ := q8; exact ⟨h0, q2, q5, q7, q2, sc, k⟩
      | some c' => obtain ⟨k1, sc, k⟩ := q8; exact ⟨h0, q2, q5, q7, k1, sc, k⟩
    · cases h2
  obtain ⟨v', row', a1, a2, a3⟩ := hH'.2 cells' rest' [] v o (by simp [H']) (by simp) ρ g row (toAVL rest') (by rw [e1, q3]; exact pd_RVL ρ _ q2) (pd_RVL ρ _ q5)
  exact ⟨v', row', a1, a2, fun L hL => JF.weakArgs (a3 L hL) fun w xs hx => by
    cases xs with
    | nil => simp [VSL] at hx
    | cons x xs => simp only [VSL] at hx ⊢; exact ⟨hx.1, q6 L w xs hx.2⟩⟩
theorem H0_ok {X : Cx} (hX : X.ok P) {f : FuncId} {fn : Func} (hf : P.funcs[f]? = some fn) (hb : fn.body = some (bodyOf fn)) (hr : (fn.name == "runtime.NumGoroutine") = false) {α : Type} {d : DcL α} {cs : α → List Prop} {v : α → XV} {o : α → Option α}
    (hd : DcLOk d) (hn : Nat.ble 1 fn.ntmps = true) (hp : ∀ a, (v a).pd = true) (h : ∀ a, (∀ p ∈ cs a, p) → ∃ sc, ∀ e ap, funH X fn sc e ap (d.enc a) [] (v a) (d.enc ((o a).getD a))) : HTok P f (H0 d cs v o) := ht_ok2 hX hf hb hr fun cells rest cs' v' o' hH hc => by
  unfold H0 at hH
  split at hH
  · split at hH
    · rename_i p a hx
      simp only [Option.some.injEq, Prod.mk.injEq] at hH
      obtain ⟨rfl, rfl, rfl⟩ := hH
      obtain ⟨h1, h2, h3⟩ := hd _ p a hx (allL hc)
      refine ⟨d.enc a, [], hn, h1, h2 a, h3, rfl, rfl, fun _ _ _ h => h, hp a, ?_⟩
      have := h a (allR hc)
      cases hoa : o a with
      | none => rw [hoa] at this; exact this
      | some c => rw [hoa] at this; exact ⟨h2 c, this⟩
    · cases hH
  · cases hH
theorem H1_ok {X : Cx} (hX : X.ok P) {f : FuncId} {fn : Func} (hf : P.funcs[f]? = some fn) (hb : fn.body = some (bodyOf fn)) (hr : (fn.name == "runtime.NumGoroutine") = false) {α β : Type} {d : DcL α} {e : Dc β} {cs : α → β → List Prop} {v : α → β → XV} {o : α → β → Option α}
    (hd : DcLOk d) (he : DcOk e) (hn : Nat.ble 2 fn.ntmps = true) (hp : ∀ a b, (v a b).pd = true) (h : ∀ a b, (∀ p ∈ cs a b, p) → ∃ sc, ∀ t ap, funH X fn sc t ap (d.enc a) [e.enc b] (v a b) (d.enc ((o a b).getD a))) : HTok P f (H1 d e cs v o) := ht_ok2 hX hf hb hr fun cells rest cs' v' o' hH hc => by
  unfold H1 at hH
  split at hH
  · split at hH
    · rename_i p a q b hx hy
      simp only [Option.some.injEq, Prod.mk.injEq] at hH
      obtain ⟨rfl, rfl, rfl⟩ := hH
      obtain ⟨h1, h2, h3⟩ := hd _ p a hx (allL hc)
      obtain ⟨k1, k2, k3⟩ := he _ q b hy (allL (allR hc))
      refine ⟨d.enc a, [e.enc b], hn, h1, h2 a, h3, by simp [pdL, k1], by simp [pdL, k2], fun L w zs hz => ?_, hp a b, ?_⟩
      · match zs, hz with
        | [z], hz => simp only [toAVL, VSL] at hz ⊢; exact ⟨k3 L w z hz.1, trivial⟩
        | [], hz => simp [toAVL, VSL] at hz
        | _ :: _ :: _, hz => simp [toAVL, VSL] at hz
      · have := h a b (allR (allR hc))
        cases hoa : o a b with
        | none => rw [hoa] at this; exact this
        | some c => rw [hoa] at this; exact ⟨h2 c, this⟩
    · cases hH
  · cases hH
theorem nt_ok2 {X : Cx} (hX : X.ok P) {f : FuncId} {fn : Func} (hf : P.funcs[f]? = some fn) (hb : fn.body = some (bodyOf fn)) (hr : (fn.name == "runtime.NumGoroutine") = false) {T : TypeId} {M : NT}
    (h : ∀ args cs cells, M args = some (cs, cells) → (∀ p ∈ cs, p) → ∃ args', Nat.ble args'.length fn.ntmps = true ∧ pdL args = true ∧ pdL args' = true ∧ (∀ L w zs, VSL L w (toAVL args) zs → VSL L w (toAVL args') zs) ∧ pdL cells = true ∧ ∃ sc, funN X fn sc args' T cells) : NTok P f T M := by
  refine ⟨⟨fn, bodyOf fn, hf, hb, hr⟩, fun args cs cells hM hc ρ bs hargs => ?_⟩
  obtain ⟨args', h0, h1, h1', hw, h2, sc, h3⟩ := h args cs cells hM hc
  have hbs := RVL.pd _ _ h1 hargs
  subst hbs
  refine ⟨toAVL cells, pd_RVL ρ cells h2, fun L => ?_⟩
  rw [bleN, decide_eq_true_eq] at h0
  refine JF.weakArgs ((fun_ok hX hf hb (by rw [toAVL_length]; exact h0) (rel0 (pd_RVL noRho args' h1')) h3).conv ?_) (hw L)
  rintro b L1 w x ⟨ρ', S', t', xv, hR, hv, hq⟩ hrows hx
  unfold ptrIs at hq
  split at hq
  · rename_i id
    simp only [RV] at hv
    obtain ⟨g, hg, rfl⟩ := hv
    obtain ⟨k1, k2, k3, k4⟩ := row_out hR hrows hg hq h2
    refine ⟨.ptr g 0, _, ?_, k1, k2, g, k4, rfl, rfl⟩
    simpa [VS] using hx
  · exact hq.elim
theorem N2_ok {X : Cx} (hX : X.ok P) {f : FuncId} {fn : Func} (hf : P.funcs[f]? = some fn) (hb : fn.body = some (bodyOf fn)) (hr : (fn.name == "runtime.NumGoroutine") = false) {T : TypeId} {α β : Type} {d : Dc α} {e : Dc β} {cs : α → β → List Prop} {c : α → β → List XV}
    (hd : DcOk d) (he : DcOk e) (hn : Nat.ble 2 fn.ntmps = true) (hp : ∀ a b, pdL (c a b) = true) (h : ∀ a b, (∀ p ∈ cs a b, p) → ∃ sc, funN X fn sc [d.enc a, e.enc b] T (c a b)) : NTok P f T (N2 d e cs c) := nt_ok2 hX hf hb hr fun args cs' v' hC hc => by
  unfold N2 at hC
  split at hC
  · split at hC
    · rename_i p a q b hx hy
      simp only [Option.some.injEq, Prod.mk.injEq] at hC
      obtain ⟨rfl, rfl⟩ := hC
      obtain ⟨h1, h2, h3⟩ := hd _ p a hx (allL hc)
      obtain ⟨k1, k2, k3⟩ := he _ q b hy (allL (allR hc))
      refine ⟨[d.enc a, e.enc b], hn, by simp [pdL, h1, k1], by simp [pdL, h2, k2], fun L w zs hz => ?_, hp a b, h a b (allR (allR hc))⟩
      match zs, hz with
      | [z, z2], hz => simp only [toAVL, VSL] at hz ⊢; exact ⟨h3 L w z hz.1, k3 L w z2 hz.2.1, trivial⟩
      | [], hz => simp [toAVL, VSL] at hz
      | [_], hz => simp [toAVL, VSL] at hz
      | _ :: _ :: _ :: _, hz => simp [toAVL, VSL] at hz
    · cases hC
  · cases hC
end
end Go.Proofs.YtghmlhdlkgjbeaaDoorAv
set_option linter.unusedVariables false
set_option linter.unusedSimpArgs false
namespace Go.Proofs.YtghmlhdlkgjbeaaDoorAv
open Go Go.RowKit
theorem Below.drewN' (w : World) (n : Nat) : Below w.heap.size w (w.drewN n) := ⟨rfl, rfl, rfl, Nat.le_refl _, fun _ _ => rfl⟩
theorem Below.same' {w w' : World} (h : w' = w) : Below w.heap.size w w' := by rw [h]; exact Below.refl _ _
theorem Below.ext' {L : GH} {w w' : World} (h : Below w.heap.size w w') : Ext L w L w' :=
  ⟨h.os, h.tape, h.output, h.size, fun b hb _ => h.block b hb, fun b _ hl => hl, fun b c e fr hc => ⟨c, e, fr, by
    have hb : b < w.heap.size := by
      rcases Nat.lt_or_ge b w.heap.size with h' | h'
      · exact h'
      · rw [Array.getElem?_eq_none h'] at hc; cases hc
    rw [h.block b hb]; exact hc, rfl⟩⟩
section
variable {P : Program}
/-- A contract out of what a call does to a world. -/
theorem JF.lib {f : FuncId} {args : List AV} {L : GH} {v : AV}
    (h : ∀ w xs, Glb L w → (∀ g, w.heap.size ≤ g → L g = none) → VSL L w args xs → Calls P f xs.toArray w fun e w' => ∃ x, e = .returned x ∧ VS L w' v x ∧ Below w.heap.size w w') : JF P f args L (fun r L' => r = v ∧ L' = L) := by
  intro w xs hg hv hrows
  refine (h w xs hg (fun g hg => ?_) hv).mono fun e w' ⟨x, he, hx, hb⟩ => ⟨v, x, L, he, hx, fun g r hr => ?_, Below.ext' hb, rfl, rfl⟩
  · cases hl : L g with
    | none => rfl
    | some r =>
      obtain ⟨c, fr, vs, hc, _⟩ := hrows g r hl
      rw [Array.getElem?_eq_none hg] at hc
      cases hc
  · have k := hrows g r hr
    obtain ⟨c, fr, vs, hc, _⟩ := hrows g r hr
    have hb' : g < w.heap.size := by
      rcases Nat.lt_or_ge g w.heap.size with h' | h'
      · exact h'
      · rw [Array.getElem?_eq_none h'] at hc; cases hc
    exact k.ext (Below.ext' hb) (hb.block g hb')
theorem JF.libA {f : FuncId} {args : List AV} {L : GH} {alts : List (Prop × XV)}
    (h : ∀ w xs, Glb L w → (∀ g, w.heap.size ≤ g → L g = none) → VSL L w args xs → Calls P f xs.toArray w fun e w' => ∃ a ∈ alts, a.1 ∧ ∃ x, e = .returned x ∧ VS L w' (toAV a.2) x ∧ Below w.heap.size w w') : JF P f args L (fun r L' => L' = L ∧ ∃ a ∈ alts, a.1 ∧ r = toAV a.2) := by
  intro w xs hg hv hrows
  refine (h w xs hg (fun g hg => ?_) hv).mono fun e w' ⟨a, ham, hφ, x, he, hx, hb⟩ => ⟨toAV a.2, x, L, he, hx, fun g r hr => ?_, Below.ext' hb, rfl, a, ham, hφ, rfl⟩
  · cases hl : L g with
    | none => rfl
    | some r =>
      obtain ⟨c, fr, vs, hc, _⟩ := hrows g r hl
      rw [Array.getElem?_eq_none hg] at hc
      cases hc
  · have k := hrows g r hr
    obtain ⟨c, fr, vs, hc, _⟩ := hrows g r hr
    have hb' : g < w.heap.size := by
      rcases Nat.lt_or_ge g w.heap.size with h' | h'
      · exact h'
      · rw [Array.getElem?_eq_none h'] at hc; cases hc
    exact k.ext (Below.ext' hb) (hb.block g hb')
theorem at_lib {f : FuncId} {fn : Func} {c : Code} (hf : P.funcs[f]? = some fn) (hb : fn.body = some c) (hr : (fn.name == "runtime.NumGoroutine") = false) {C : AT}
    (h : ∀ args cs alts, C args = some (cs, alts) → (∀ p ∈ cs, p) → pdL args = true ∧ (∀ a ∈ alts, a.2.pd = true) ∧ ∀ L w xs, Glb L w → (∀ g, w.heap.size ≤ g → L g = none) → VSL L w (toAVL args) xs →
      Calls P f xs.toArray w fun e w' => ∃ a ∈ alts, a.1 ∧ ∃ x, e = .returned x ∧ VS L w' (toAV a.2) x ∧ Below w.heap.size w w') : ATok P f C := by
  refine ⟨⟨fn, c, hf, hb, hr⟩, fun args cs alts hC hc ρ bs ha => ?_⟩
  obtain ⟨h1, h2, h3⟩ := h args cs alts hC hc
  refine ⟨h2, fun L => ?_⟩
  rw [RVL.pd args bs h1 ha]
  exact JF.libA fun w xs hg hfr hv => h3 L w xs hg hfr hv
theorem ct_lib {f : FuncId} {fn : Func} {c : Code} (hf : P.funcs[f]? = some fn) (hb : fn.body = some c) (hr : (fn.name == "runtime.NumGoroutine") = false) {C : CT}
    (h : ∀ args cs v, C args = some (cs, v) → (∀ p ∈ cs, p) → pdL args = true ∧ v.pd = true ∧ ∀ L w xs, Glb L w → (∀ g, w.heap.size ≤ g → L g = none) → VSL L w (toAVL args) xs →
      Calls P f xs.toArray w fun e w' => ∃ x, e = .returned x ∧ VS L w' (toAV v) x ∧ Below w.heap.size w w') : CTok P f C := by
  refine ⟨⟨fn, c, hf, hb, hr⟩, fun args cs v hC hc ρ bs ha => ?_⟩
  obtain ⟨h1, h2, h3⟩ := h args cs v hC hc
  refine ⟨toAV v, pd_RV ρ v h2, fun L => ?_⟩
  rw [RVL.pd args bs h1 ha]
  exact JF.lib fun w xs hg hfr hv => h3 L w xs hg hfr hv
theorem ct_lib2 {f : FuncId} {fn : Func} {c : Code} (hf : P.funcs[f]? = some fn) (hb : fn.body = some c) (hr : (fn.name == "runtime.NumGoroutine") = false) {α β : Type} {d : Dc α} {e : Dc β} (hd : DcOk d) (he : DcOk e) {cs : α → β → List Prop} {v : α → β → XV} (hv : ∀ a b, (v a b).pd = true)
    (h : ∀ a b, (∀ p ∈ cs a b, p) → ∀ L w x y, Glb L w → (∀ g, w.heap.size ≤ g → L g = none) → VS L w (toAV (d.enc a)) x → VS L w (toAV (e.enc b)) y → Calls P f #[x, y] w fun en w' => ∃ z, en = .returned z ∧ VS L w' (toAV (v a b)) z ∧ Below w.heap.size w w') : CTok P f (C2 d e cs v) :=
  ct_lib hf hb hr fun args ps u hC hc => by
    unfold C2 at hC
    split at hC
    · split at hC
      · rename_i p a q b hx hy
        simp only [Option.some.injEq, Prod.mk.injEq] at hC
        obtain ⟨rfl, rfl⟩ := hC
        obtain ⟨h1, h2, h3⟩ := hd _ p a hx fun r hr => hc r (by simp [hr])
        obtain ⟨k1, k2, k3⟩ := he _ q b hy fun r hr => hc r (by simp [hr])
        refine ⟨by simp [pdL, h1, k1], hv _ _, fun L w xs hg hfr hz => ?_⟩
        match xs, hz with
        | [x, y], hz =>
          simp only [toAVL, VSL] at hz
          exact h a b (fun r hr => hc r (by simp [hr])) L w x y hg hfr (h3 L w x hz.1) (k3 L w y hz.2.1)
        | [], hz => simp [toAVL, VSL] at hz
        | [_], hz => simp [toAVL, VSL] at hz
        | _ :: _ :: _ :: _, hz => simp [toAVL, VSL] at hz
      · cases hC
    · cases hC
theorem VSL_str1 {L : GH} {w : World} {a : ByteArray} {xs : List Value} (h : VSL L w [.p (.string a)] xs) : xs = [.string a] := by
  have := VSL_map_p (l := [.string a]) (xs := xs) (by simpa using h)
  exact this
theorem VSL_str2 {L : GH} {w : World} {a b : ByteArray} {xs : List Value} (h : VSL L w [.p (.string a), .p (.string b)] xs) : xs = [.string a, .string b] :=
  VSL_map_p (l := [.string a, .string b]) (xs := xs) (by simpa using h)
theorem VSL_str3 {L : GH} {w : World} {a b c : ByteArray} {xs : List Value} (h : VSL L w [.p (.string a), .p (.string b), .p (.string c)] xs) : xs = [.string a, .string b, .string c] :=
  VSL_map_p (l := [.string a, .string b, .string c]) (xs := xs) (by simpa using h)
theorem dStr_dec {x : XV} {cs : List Prop} {a : ByteArray} (h : dStr.dec x = some (cs, a)) : x = XT a ∧ cs = [] := by
  simp only [dStr] at h
  split at h
  · rename_i h1
    simp only [Option.some.injEq, Prod.mk.injEq] at h
    exact ⟨by rw [strO_eq h1, h.2], h.1.symm⟩
  · cases h
theorem dInt_dec {x : XV} {cs : List Prop} {a : Int} (h : dInt.dec x = some (cs, a)) : x = XI a ∧ cs = [] := by
  simp only [dInt] at h
  split at h
  · rename_i h1
    simp only [Option.some.injEq, Prod.mk.injEq] at h
    exact ⟨by rw [intO_eq h1, h.2], h.1.symm⟩
  · cases h
theorem ct_str1 {f : FuncId} {fn : Func} {c : Code} (hf : P.funcs[f]? = some fn) (hb : fn.body = some c) (hr : (fn.name == "runtime.NumGoroutine") = false) {cs : ByteArray → List Prop} {v : ByteArray → XV} (hv : ∀ a, (v a).pd = true)
    (h : ∀ a, (∀ p ∈ cs a, p) → ∀ L w, Glb L w → (∀ g, w.heap.size ≤ g → L g = none) → Calls P f #[.string a] w fun e w' => ∃ x, e = .returned x ∧ VS L w' (toAV (v a)) x ∧ Below w.heap.size w w') : CTok P f (C1 dStr cs v) :=
  ct_lib hf hb hr fun args ps u hC hc => by
    unfold C1 at hC
    split at hC
    · split at hC
      · rename_i h1
        simp only [Option.some.injEq, Prod.mk.injEq] at hC
        obtain ⟨rfl, rfl⟩ := hC
        obtain ⟨rfl, rfl⟩ := dStr_dec h1
        refine ⟨by simp [pdL, XV.pd], hv _, fun L w xs hg hfr hx => ?_⟩
        obtain rfl := VSL_str1 (by simpa [toAVL, toAV] using hx)
        exact h _ (by simpa using hc) L w hg hfr
      · cases hC
    · cases hC
theorem ct_str2 {f : FuncId} {fn : Func} {c : Code} (hf : P.funcs[f]? = some fn) (hb : fn.body = some c) (hr : (fn.name == "runtime.NumGoroutine") = false) {cs : ByteArray → ByteArray → List Prop} {v : ByteArray → ByteArray → XV} (hv : ∀ a b, (v a b).pd = true)
    (h : ∀ a b, (∀ p ∈ cs a b, p) → ∀ L w, Glb L w → (∀ g, w.heap.size ≤ g → L g = none) → Calls P f #[.string a, .string b] w fun e w' => ∃ x, e = .returned x ∧ VS L w' (toAV (v a b)) x ∧ Below w.heap.size w w') : CTok P f (C2 dStr dStr cs v) :=
  ct_lib hf hb hr fun args ps u hC hc => by
    unfold C2 at hC
    split at hC
    · split at hC
      · rename_i h1 h2
        simp only [Option.some.injEq, Prod.mk.injEq] at hC
        obtain ⟨rfl, rfl⟩ := hC
        obtain ⟨rfl, rfl⟩ := dStr_dec h1
        obtain ⟨rfl, rfl⟩ := dStr_dec h2
        refine ⟨by simp [pdL, XV.pd], hv _ _, fun L w xs hg hfr hx => ?_⟩
        obtain rfl := VSL_str2 (by simpa [toAVL, toAV] using hx)
        exact h _ _ (by simpa using hc) L w hg hfr
      · cases hC
    · cases hC
theorem ct_str3 {f : FuncId} {fn : Func} {c : Code} (hf : P.funcs[f]? = some fn) (hb : fn.body = some c) (hr : (fn.name == "runtime.NumGoroutine") = false) {cs : ByteArray → ByteArray → ByteArray → List Prop} {v : ByteArray → ByteArray → ByteArray → XV} (hv : ∀ a b c, (v a b c).pd = true)
    (h : ∀ a b c, (∀ p ∈ cs a b c, p) → ∀ L w, Glb L w → (∀ g, w.heap.size ≤ g → L g = none) → Calls P f #[.string a, .string b, .string c] w fun e w' => ∃ x, e = .returned x ∧ VS L w' (toAV (v a b c)) x ∧ Below w.heap.size w w') : CTok P f (C3 dStr dStr dStr cs v) :=
  ct_lib hf hb hr fun args ps u hC hc => by
    unfold C3 at hC
    split at hC
    · split at hC
      · rename_i h1 h2 h3
        simp only [Option.some.injEq, Prod.mk.injEq] at hC
        obtain ⟨rfl, rfl⟩ := hC
        obtain ⟨rfl, rfl⟩ := dStr_dec h1
        obtain ⟨rfl, rfl⟩ := dStr_dec h2
        obtain ⟨rfl, rfl⟩ := dStr_dec h3
        refine ⟨by simp [pdL, XV.pd], hv _ _ _, fun L w xs hg hfr hx => ?_⟩
        obtain rfl := VSL_str3 (by simpa [toAVL, toAV] using hx)
        exact h _ _ _ (by simpa using hc) L w hg hfr
      · cases hC
    · cases hC
end
/-- A list of texts in memory that is only read. -/
def strsL (l : List ByteArray) : XV := .fz l.length 1 fun i => [XT (l.getD i ⟨#[]⟩)]
theorem strsL_AV (l : List ByteArray) : toAV (strsL l) = .fz l.length (l.map fun s => AV.p (.string s)) := by
  simp only [strsL, toAV]
  congr 1
  apply List.ext_getElem?
  intro i
  rw [List.getElem?_map]
  rcases Nat.lt_or_ge i l.length with h | h
  · have := vecOf_get (n := l.length) (sz := 1) (g := fun i => toAVL [XT (l.getD i ⟨#[]⟩)]) (i := i) (o := 0) h (by omega)
    simp only [Nat.mul_one, Nat.add_zero] at this
    rw [this, List.getElem?_eq_getElem h]
    simp [toAVL, toAV, List.getD_eq_getElem?_getD, List.getElem?_eq_getElem h]
  · rw [List.getElem?_eq_none h, List.getElem?_eq_none (by rw [vecOf_length]; omega)]
    rfl
/-- A new block of texts, as a slice. -/
theorem VS_newStrs {L : GH} {w : World} {l : List ByteArray} {T : TypeId} (hfr : L w.heap.size = none) :
    VS L (w.alloc (.cells (l.map Value.string).toArray T)) (toAV (strsL l)) (.slice (some ⟨w.heap.size, 0, none⟩) l.length l.length) := by
  rw [strsL_AV]
  simp only [VS]
  refine ⟨_, _, l.map Value.string, rfl, Nat.le_refl _, .inr ⟨_, rfl, hfr, ?_, fun i v hi => ?_⟩, ?_⟩
  · intro v hv
    obtain ⟨s, _, rfl⟩ := List.mem_map.1 hv
    rfl
  · rw [add_plain, Nat.zero_add]
    simp only [World.cell?, World.alloc]
    simp only [Array.getElem?_push_size]
    simpa using hi
  · induction l with
    | nil => simp [VSL]
    | cons s l ih =>
      simp only [List.map_cons, VSL, VS]
      exact ⟨trivial, by
        clear ih
        generalize (w.alloc (.cells (Value.string s :: l.map Value.string).toArray T)) = w'
        induction l with
        | nil => simp [VSL]
        | cons s l ih => simp only [List.map_cons, VSL, VS]; exact ⟨trivial, ih⟩⟩
end Go.Proofs.YtghmlhdlkgjbeaaDoorAv
set_option linter.unusedVariables false
namespace Go.Proofs.YtghmlhdlkgjbeaaDoorAv
open Go Go.RowKit
def tabU : List (Nat × TypeDesc) := [(2, .int .i64),
  (3, .int .i64),
  (4, .bool),
  (5, .int .u8),
  (6, .int .u8),
  (9, .string),
  (10, .string),
  (11, .string),
  (12, .int .u64),
  (15, .pointer 114),
  (16, .pointer 117),
  (17, .pointer 125),
  (21, .int .i32),
  (22, .array 16 5),
  (23, .array 16 5),
  (25, .int .i64),
  (31, .array 4 5),
  (33, .slice 5),
  (38, .array 3 3),
  (40, .slice 9),
  (48, .array 8 3),
  (49, .int .u64),
  (52, .array 12 5),
  (54, .int .u64),
  (55, .interface #[("Error", 67)]),
  (56, .interface #[("Error", 67)]),
  (61, .pointer 63),
  (62, .struct #[{ name := "addr", type := 61, offset := 0, embedded := false, tag := "", pkgPath := "strings", byteOffset := 0 }, { name := "buf", type := 33, offset := 1, embedded := false, tag := "", pkgPath := "strings", byteOffset := 8 }]),
  (63, .struct #[{ name := "addr", type := 61, offset := 0, embedded := false, tag := "", pkgPath := "strings", byteOffset := 0 }, { name := "buf", type := 33, offset := 1, embedded := false, tag := "", pkgPath := "strings", byteOffset := 8 }]),
  (70, .pointer 5),
  (71, .array 24 5),
  (78, .int .i64),
  (81, .pointer 99),
  (89, .array 20 54),
  (90, .int .u32),
  (91, .array 65 5),
  (98, .struct #[{ name := "Func", type := 9, offset := 0, embedded := false, tag := "", pkgPath := "", byteOffset := 0 }, { name := "Num", type := 9, offset := 1, embedded := false, tag := "", pkgPath := "", byteOffset := 16 }, { name := "Err", type := 56, offset := 2, embedded := false, tag := "", pkgPath := "", byteOffset := 32 }]),
  (99, .struct #[{ name := "Func", type := 9, offset := 0, embedded := false, tag := "", pkgPath := "", byteOffset := 0 }, { name := "Num", type := 9, offset := 1, embedded := false, tag := "", pkgPath := "", byteOffset := 16 }, { name := "Err", type := 56, offset := 2, embedded := false, tag := "", pkgPath := "", byteOffset := 32 }]),
  (102, .pointer 104),
  (103, .struct #[{ name := "s", type := 9, offset := 0, embedded := false, tag := "", pkgPath := "errors", byteOffset := 0 }]),
  (104, .struct #[{ name := "s", type := 9, offset := 0, embedded := false, tag := "", pkgPath := "errors", byteOffset := 0 }]),
  (107, .array 32 5),
  (108, .array 64 5),
  (110, .struct #[{ name := "lo", type := 5, offset := 0, embedded := false, tag := "", pkgPath := "unicode/utf8", byteOffset := 0 }, { name := "hi", type := 5, offset := 1, embedded := false, tag := "", pkgPath := "unicode/utf8", byteOffset := 1 }]),
  (111, .struct #[{ name := "lo", type := 5, offset := 0, embedded := false, tag := "", pkgPath := "unicode/utf8", byteOffset := 0 }, { name := "hi", type := 5, offset := 1, embedded := false, tag := "", pkgPath := "unicode/utf8", byteOffset := 1 }]),
  (112, .array 16 111),
  (115, .array 0 16),
  (119, .int .u8),
  (120, .int .u8),
  (122, .int .i32),
  (123, .int .i32),
  (124, .struct #[{ name := "Size_", type := 12, offset := 0, embedded := false, tag := "", pkgPath := "", byteOffset := 0 }, { name := "PtrBytes", type := 12, offset := 1, embedded := false, tag := "", pkgPath := "", byteOffset := 8 }, { name := "Hash", type := 90, offset := 2, embedded := false, tag := "", pkgPath := "", byteOffset := 16 }, { name := "TFlag", type := 119, offset := 3, embedded := false, tag := "", pkgPath := "", byteOffset := 20 }, { name := "Align_", type := 5, offset := 4, embedded := false, tag := "", pkgPath := "", byteOffset := 21 }, { name := "FieldAlign_", type := 5, offset := 5, embedded := false, tag := "", pkgPath := "", byteOffset := 22 }, { name := "Kind_", type := 120, offset := 6, embedded := false, tag := "", pkgPath := "", byteOffset := 23 }, { name := "Equal", type := 121, offset := 7, embedded := false, tag := "", pkgPath := "", byteOffset := 24 }, { name := "GCData", type := 70, offset := 8, embedded := false, tag := "", pkgPath := "", byteOffset := 32 }, { name := "Str", type := 122, offset := 9, embedded := false, tag := "", pkgPath := "", byteOffset := 40 }, { name := "PtrToThis", type := 123, offset := 10, embedded := false, tag := "", pkgPath := "", byteOffset := 44 }]),
  (125, .struct #[{ name := "Size_", type := 12, offset := 0, embedded := false, tag := "", pkgPath := "", byteOffset := 0 }, { name := "PtrBytes", type := 12, offset := 1, embedded := false, tag := "", pkgPath := "", byteOffset := 8 }, { name := "Hash", type := 90, offset := 2, embedded := false, tag := "", pkgPath := "", byteOffset := 16 }, { name := "TFlag", type := 119, offset := 3, embedded := false, tag := "", pkgPath := "", byteOffset := 20 }, { name := "Align_", type := 5, offset := 4, embedded := false, tag := "", pkgPath := "", byteOffset := 21 }, { name := "FieldAlign_", type := 5, offset := 5, embedded := false, tag := "", pkgPath := "", byteOffset := 22 }, { name := "Kind_", type := 120, offset := 6, embedded := false, tag := "", pkgPath := "", byteOffset := 23 }, { name := "Equal", type := 121, offset := 7, embedded := false, tag := "", pkgPath := "", byteOffset := 24 }, { name := "GCData", type := 70, offset := 8, embedded := false, tag := "", pkgPath := "", byteOffset := 32 }, { name := "Str", type := 122, offset := 9, embedded := false, tag := "", pkgPath := "", byteOffset := 40 }, { name := "PtrToThis", type := 123, offset := 10, embedded := false, tag := "", pkgPath := "", byteOffset := 44 }])]
def tabI : List (Nat × (Value × Nat × Nat)) := [(2, (.int .i64 (0)), 1, 8),
  (3, (.int .i64 (0)), 1, 8),
  (4, (.bool false), 1, 1),
  (5, (.int .u8 (0)), 1, 1),
  (6, (.int .u8 (0)), 1, 1),
  (9, (.string ⟨#[]⟩), 1, 16),
  (10, (.string ⟨#[]⟩), 1, 16),
  (11, (.string ⟨#[]⟩), 1, 16),
  (12, (.int .u64 (0)), 1, 8),
  (15, (.pointer none), 1, 8),
  (16, (.pointer none), 1, 8),
  (17, (.pointer none), 1, 8),
  (21, (.int .i32 (0)), 1, 4),
  (22, (.agg #[.int .u8 (0), .int .u8 (0), .int .u8 (0), .int .u8 (0), .int .u8 (0), .int .u8 (0), .int .u8 (0), .int .u8 (0), .int .u8 (0), .int .u8 (0), .int .u8 (0), .int .u8 (0), .int .u8 (0), .int .u8 (0), .int .u8 (0), .int .u8 (0)]), 16, 16),
  (23, (.agg #[.int .u8 (0), .int .u8 (0), .int .u8 (0), .int .u8 (0), .int .u8 (0), .int .u8 (0), .int .u8 (0), .int .u8 (0), .int .u8 (0), .int .u8 (0), .int .u8 (0), .int .u8 (0), .int .u8 (0), .int .u8 (0), .int .u8 (0), .int .u8 (0)]), 16, 16),
  (25, (.int .i64 (0)), 1, 8),
  (31, (.agg #[.int .u8 (0), .int .u8 (0), .int .u8 (0), .int .u8 (0)]), 4, 4),
  (33, (.slice none 0 0), 1, 24),
  (38, (.agg #[.int .i64 (0), .int .i64 (0), .int .i64 (0)]), 3, 24),
  (40, (.slice none 0 0), 1, 24),
  (48, (.agg #[.int .i64 (0), .int .i64 (0), .int .i64 (0), .int .i64 (0), .int .i64 (0), .int .i64 (0), .int .i64 (0), .int .i64 (0)]), 8, 64),
  (49, (.int .u64 (0)), 1, 8),
  (52, (.agg #[.int .u8 (0), .int .u8 (0), .int .u8 (0), .int .u8 (0), .int .u8 (0), .int .u8 (0), .int .u8 (0), .int .u8 (0), .int .u8 (0), .int .u8 (0), .int .u8 (0), .int .u8 (0)]), 12, 12),
  (54, (.int .u64 (0)), 1, 8),
  (55, .nilIface, 1, 16),
  (56, .nilIface, 1, 16),
  (61, (.pointer none), 1, 8),
  (62, (.agg #[.pointer none, .slice none 0 0]), 2, 32),
  (63, (.agg #[.pointer none, .slice none 0 0]), 2, 32),
  (70, (.pointer none), 1, 8),
  (71, (.agg #[.int .u8 (0), .int .u8 (0), .int .u8 (0), .int .u8 (0), .int .u8 (0), .int .u8 (0), .int .u8 (0), .int .u8 (0), .int .u8 (0), .int .u8 (0), .int .u8 (0), .int .u8 (0), .int .u8 (0), .int .u8 (0), .int .u8 (0), .int .u8 (0), .int .u8 (0), .int .u8 (0), .int .u8 (0), .int .u8 (0), .int .u8 (0), .int .u8 (0), .int .u8 (0), .int .u8 (0)]), 24, 24),
  (78, (.int .i64 (0)), 1, 8),
  (81, (.pointer none), 1, 8),
  (89, (.agg #[.int .u64 (0), .int .u64 (0), .int .u64 (0), .int .u64 (0), .int .u64 (0), .int .u64 (0), .int .u64 (0), .int .u64 (0), .int .u64 (0), .int .u64 (0), .int .u64 (0), .int .u64 (0), .int .u64 (0), .int .u64 (0), .int .u64 (0), .int .u64 (0), .int .u64 (0), .int .u64 (0), .int .u64 (0), .int .u64 (0)]), 20, 160),
  (90, (.int .u32 (0)), 1, 4),
  (91, (.agg #[.int .u8 (0), .int .u8 (0), .int .u8 (0), .int .u8 (0), .int .u8 (0), .int .u8 (0), .int .u8 (0), .int .u8 (0), .int .u8 (0), .int .u8 (0), .int .u8 (0), .int .u8 (0), .int .u8 (0), .int .u8 (0), .int .u8 (0), .int .u8 (0), .int .u8 (0), .int .u8 (0), .int .u8 (0), .int .u8 (0), .int .u8 (0), .int .u8 (0), .int .u8 (0), .int .u8 (0), .int .u8 (0), .int .u8 (0), .int .u8 (0), .int .u8 (0), .int .u8 (0), .int .u8 (0), .int .u8 (0), .int .u8 (0), .int .u8 (0), .int .u8 (0), .int .u8 (0), .int .u8 (0), .int .u8 (0), .int .u8 (0), .int .u8 (0), .int .u8 (0), .int .u8 (0), .int .u8 (0), .int .u8 (0), .int .u8 (0), .int .u8 (0), .int .u8 (0), .int .u8 (0), .int .u8 (0), .int .u8 (0), .int .u8 (0), .int .u8 (0), .int .u8 (0), .int .u8 (0), .int .u8 (0), .int .u8 (0), .int .u8 (0), .int .u8 (0), .int .u8 (0), .int .u8 (0), .int .u8 (0), .int .u8 (0), .int .u8 (0), .int .u8 (0), .int .u8 (0), .int .u8 (0)]), 65, 65),
  (98, (.agg #[.string ⟨#[]⟩, .string ⟨#[]⟩, .nilIface]), 3, 48),
  (99, (.agg #[.string ⟨#[]⟩, .string ⟨#[]⟩, .nilIface]), 3, 48),
  (102, (.pointer none), 1, 8),
  (103, (.agg #[.string ⟨#[]⟩]), 1, 16),
  (104, (.agg #[.string ⟨#[]⟩]), 1, 16),
  (107, (.agg #[.int .u8 (0), .int .u8 (0), .int .u8 (0), .int .u8 (0), .int .u8 (0), .int .u8 (0), .int .u8 (0), .int .u8 (0), .int .u8 (0), .int .u8 (0), .int .u8 (0), .int .u8 (0), .int .u8 (0), .int .u8 (0), .int .u8 (0), .int .u8 (0), .int .u8 (0), .int .u8 (0), .int .u8 (0), .int .u8 (0), .int .u8 (0), .int .u8 (0), .int .u8 (0), .int .u8 (0), .int .u8 (0), .int .u8 (0), .int .u8 (0), .int .u8 (0), .int .u8 (0), .int .u8 (0), .int .u8 (0), .int .u8 (0)]), 32, 32),
  (108, (.agg #[.int .u8 (0), .int .u8 (0), .int .u8 (0), .int .u8 (0), .int .u8 (0), .int .u8 (0), .int .u8 (0), .int .u8 (0), .int .u8 (0), .int .u8 (0), .int .u8 (0), .int .u8 (0), .int .u8 (0), .int .u8 (0), .int .u8 (0), .int .u8 (0), .int .u8 (0), .int .u8 (0), .int .u8 (0), .int .u8 (0), .int .u8 (0), .int .u8 (0), .int .u8 (0), .int .u8 (0), .int .u8 (0), .int .u8 (0), .int .u8 (0), .int .u8 (0), .int .u8 (0), .int .u8 (0), .int .u8 (0), .int .u8 (0), .int .u8 (0), .int .u8 (0), .int .u8 (0), .int .u8 (0), .int .u8 (0), .int .u8 (0), .int .u8 (0), .int .u8 (0), .int .u8 (0), .int .u8 (0), .int .u8 (0), .int .u8 (0), .int .u8 (0), .int .u8 (0), .int .u8 (0), .int .u8 (0), .int .u8 (0), .int .u8 (0), .int .u8 (0), .int .u8 (0), .int .u8 (0), .int .u8 (0), .int .u8 (0), .int .u8 (0), .int .u8 (0), .int .u8 (0), .int .u8 (0), .int .u8 (0), .int .u8 (0), .int .u8 (0), .int .u8 (0), .int .u8 (0)]), 64, 64),
  (110, (.agg #[.int .u8 (0), .int .u8 (0)]), 2, 2),
  (111, (.agg #[.int .u8 (0), .int .u8 (0)]), 2, 2),
  (112, (.agg #[.int .u8 (0), .int .u8 (0), .int .u8 (0), .int .u8 (0), .int .u8 (0), .int .u8 (0), .int .u8 (0), .int .u8 (0), .int .u8 (0), .int .u8 (0), .int .u8 (0), .int .u8 (0), .int .u8 (0), .int .u8 (0), .int .u8 (0), .int .u8 (0), .int .u8 (0), .int .u8 (0), .int .u8 (0), .int .u8 (0), .int .u8 (0), .int .u8 (0), .int .u8 (0), .int .u8 (0), .int .u8 (0), .int .u8 (0), .int .u8 (0), .int .u8 (0), .int .u8 (0), .int .u8 (0), .int .u8 (0), .int .u8 (0)]), 32, 32),
  (115, (.agg #[]), 0, 0),
  (119, (.int .u8 (0)), 1, 1),
  (120, (.int .u8 (0)), 1, 1),
  (122, (.int .i32 (0)), 1, 4),
  (123, (.int .i32 (0)), 1, 4),
  (124, (.agg #[.int .u64 (0), .int .u64 (0), .int .u32 (0), .int .u8 (0), .int .u8 (0), .int .u8 (0), .int .u8 (0), .nilFunc, .pointer none, .int .i32 (0), .int .i32 (0)]), 11, 48),
  (125, (.agg #[.int .u64 (0), .int .u64 (0), .int .u32 (0), .int .u8 (0), .int .u8 (0), .int .u8 (0), .int .u8 (0), .nilFunc, .pointer none, .int .i32 (0), .int .i32 (0)]), 11, 48)]
theorem tabU_ok : okU Tryd.prog tabU := ⟨by kernel_rfl, by kernel_rfl, by kernel_rfl, by kernel_rfl, by kernel_rfl, by kernel_rfl, by kernel_rfl, by kernel_rfl, by kernel_rfl, by kernel_rfl, by kernel_rfl, by kernel_rfl, by kernel_rfl, by kernel_rfl, by kernel_rfl, by kernel_rfl, by kernel_rfl, by kernel_rfl, by kernel_rfl, by kernel_rfl, by kernel_rfl, by kernel_rfl, by kernel_rfl, by kernel_rfl, by kernel_rfl, by kernel_rfl, by kernel_rfl, by kernel_rfl, by kernel_rfl, by kernel_rfl, by kernel_rfl, by kernel_rfl, by kernel_rfl, by kernel_rfl, by kernel_rfl, by kernel_rfl, by kernel_rfl, by kernel_rfl, by kernel_rfl, by kernel_rfl, by kernel_rfl, by kernel_rfl, by kernel_rfl, by kernel_rfl, by kernel_rfl, by kernel_rfl, by kernel_rfl, by kernel_rfl, by kernel_rfl, by kernel_rfl, by kernel_rfl, by kernel_rfl, by kernel_rfl, trivial⟩
theorem tabI_ok : okI Tryd.prog tabI := ⟨by kernel_rfl, by kernel_rfl, by kernel_rfl, by kernel_rfl, by kernel_rfl, by kernel_rfl, by kernel_rfl, by kernel_rfl, by kernel_rfl, by kernel_rfl, by kernel_rfl, by kernel_rfl, by kernel_rfl, by kernel_rfl, by kernel_rfl, by kernel_rfl, by kernel_rfl, by kernel_rfl, by kernel_rfl, by kernel_rfl, by kernel_rfl, by kernel_rfl, by kernel_rfl, by kernel_rfl, by kernel_rfl, by kernel_rfl, by kernel_rfl, by kernel_rfl, by kernel_rfl, by kernel_rfl, by kernel_rfl, by kernel_rfl, by kernel_rfl, by kernel_rfl, by kernel_rfl, by kernel_rfl, by kernel_rfl, by kernel_rfl, by kernel_rfl, by kernel_rfl, by kernel_rfl, by kernel_rfl, by kernel_rfl, by kernel_rfl, by kernel_rfl, by kernel_rfl, by kernel_rfl, by kernel_rfl, by kernel_rfl, by kernel_rfl, by kernel_rfl, by kernel_rfl, by kernel_rfl, trivial⟩
def tabE : List Nat := [22, 23, 31, 38, 48, 52, 71, 89, 91, 103, 104, 107, 108, 110, 111, 112]
theorem tabE_ok : okE Tryd.prog tabE := ⟨⟨by kernel_rfl, by kernel_rfl, by decide +kernel⟩, ⟨by kernel_rfl, by kernel_rfl, by decide +kernel⟩, ⟨by kernel_rfl, by kernel_rfl, by decide +kernel⟩, ⟨by kernel_rfl, by kernel_rfl, by decide +kernel⟩, ⟨by kernel_rfl, by kernel_rfl, by decide +kernel⟩, ⟨by kernel_rfl, by kernel_rfl, by decide +kernel⟩, ⟨by kernel_rfl, by kernel_rfl, by decide +kernel⟩, ⟨by kernel_rfl, by kernel_rfl, by decide +kernel⟩, ⟨by kernel_rfl, by kernel_rfl, by decide +kernel⟩, ⟨by kernel_rfl, by kernel_rfl, by decide +kernel⟩, ⟨by kernel_rfl, by kernel_rfl, by decide +kernel⟩, ⟨by kernel_rfl, by kernel_rfl, by decide +kernel⟩, ⟨by kernel_rfl, by kernel_rfl, by decide +kernel⟩, ⟨by kernel_rfl, by kernel_rfl, by decide +kernel⟩, ⟨by kernel_rfl, by kernel_rfl, by decide +kernel⟩, ⟨by kernel_rfl, by kernel_rfl, by decide +kernel⟩, trivial⟩
def cx0 : Cx := { U := tabU, I := tabI, C := [], H := [], N := [], L := [], E := tabE }
theorem cx0_ok : cx0.ok Tryd.prog := ⟨tabU_ok, tabI_ok, fun f C h => by simp [cx0, fnd] at h, fun f C h => by simp [cx0, fnd] at h, fun f T C h => by simp [cx0, fnd] at h, rfl, fun f C h => by simp [cx0, fnd] at h, tabE_ok⟩
end Go.Proofs.YtghmlhdlkgjbeaaDoorAv
namespace Go.Proofs
open Go.Shelf
def Tryd.lays156_ren : Go.Shelf.Ren := ⟨fun | 156 => 24 | 165 => 31 | 166 => 32 | 169 => 33 | 240 => 40 | 241 => 41 | 276 => 56 | 277 => 57 | n => n, fun | 31 => 40 | 9 => 9 | 3 => 3 | 4 => 4 | 0 => 0 | 20 => 20 | 72 => 63 | 76 => 65 | 70 => 61 | 37 => 33 | 75 => 56 | 127 => 70 | 164 => 84 | 5 => 5 | 80 => 67 | n => n, fun | n => n⟩
theorem Tryd.lays156 : Go.Proofs.Lays.n156 Tryd.prog Tryd.lays156_ren := {
  mixed := by kernel_rfl
  f156 := Tryd.func24.trans (congrArg some (by kernel_rfl))
  f165 := Tryd.func31.trans (congrArg some (by kernel_rfl))
  f166 := Tryd.func32.trans (congrArg some (by kernel_rfl))
  f169 := Tryd.func33.trans (congrArg some (by kernel_rfl))
  f240 := Tryd.func40.trans (congrArg some (by kernel_rfl))
  f241 := Tryd.func41.trans (congrArg some (by kernel_rfl))
  f276 := Tryd.func56.trans (congrArg some (by kernel_rfl))
  f277 := Tryd.func57.trans (congrArg some (by kernel_rfl))
  t0 := Tryd.underlying0
  a0 := Tryd.isAgg0
  z0 := Tryd.sizeOf0
  v0 := Tryd.zeroValue0
  t3 := Tryd.underlying3
  a3 := Tryd.isAgg3
  z3 := Tryd.sizeOf3
  v3 := Tryd.zeroValue3
  t4 := Tryd.underlying4
  a4 := Tryd.isAgg4
  z4 := Tryd.sizeOf4
  v4 := Tryd.zeroValue4
  t9 := Tryd.underlying9
  a9 := Tryd.isAgg9
  z9 := Tryd.sizeOf9
  v9 := Tryd.zeroValue9
  t20 := Tryd.underlying20
  a20 := Tryd.isAgg20
  z20 := Tryd.sizeOf20
  v20 := Tryd.zeroValue20
  t31 := Tryd.underlying40
  a31 := Tryd.isAgg40
  z31 := Tryd.sizeOf40
  v31 := Tryd.zeroValue40
  t37 := Tryd.underlying33
  a37 := Tryd.isAgg33
  z37 := Tryd.sizeOf33
  v37 := Tryd.zeroValue33
  t70 := Tryd.underlying61
  a70 := Tryd.isAgg61
  z70 := Tryd.sizeOf61
  v70 := Tryd.zeroValue61
  t72 := Tryd.underlying63
  a72 := Tryd.isAgg63
  z72 := Tryd.sizeOf63
  v72 := Tryd.zeroValue63
  t75 := Tryd.underlying56
  a75 := Tryd.isAgg56
  z75 := Tryd.sizeOf56
  v75 := Tryd.zeroValue56
  t76 := Tryd.underlying65
  a76 := Tryd.isAgg65
  z76 := Tryd.sizeOf65
  v76 := Tryd.zeroValue65
  t127 := Tryd.underlying70
  a127 := Tryd.isAgg70
  z127 := Tryd.sizeOf70
  v127 := Tryd.zeroValue70
  t164 := Tryd.underlying84
  a164 := Tryd.isAgg84
  z164 := Tryd.sizeOf84
  v164 := Tryd.zeroValue84 }
theorem Tryd.Builder_Extra_156 : Builder.Extra Tryd.prog Tryd.lays156_ren := {
  sizeBuilder := by kernel_rfl
  liesBuilder := by kernel_rfl
  t5 := Tryd.underlying5
  a5 := Tryd.isAgg5
  z5 := Tryd.sizeOf5
  v5 := Tryd.zeroValue5
  infoByte := by kernel_rfl
  cellsByte := by kernel_rfl
  sizeByte := by kernel_rfl
  neB5 := by decide }
open Go.RowKit in
theorem Tryd.strings_Join_none (a : Option Addr) (c : Nat) (sep : ByteArray) (w : World) :
    Calls Tryd.prog 24 #[.slice a 0 c, .string sep] w fun e w' => e = .returned (.string ⟨#[]⟩) ∧ w' = w := Any.strings_Join_none Tryd.lays156 Tryd.Builder_Extra_156 a c sep w
open Go.RowKit in
theorem Tryd.strings_Join (bk o c : Nat) (xs : List ByteArray) (sep : ByteArray) (w : World) (hcells : ∀ (j : Nat) x, xs[j]? = some x → w.cell? ⟨bk, o + j, none⟩ = some (.string x)) (hbk : bk < w.heap.size) (hN : xs.length ≤ 140737488355328) (hcap : xs.length ≤ c) (hlen : (Lib.join (xs.map (·.data.toList)) sep.data.toList).length ≤ 140737488355328) :
    Calls Tryd.prog 24 #[.slice (some ⟨bk, o, none⟩) xs.length c, .string sep] w fun e w' => e = .returned (.string ⟨(Lib.join (xs.map (·.data.toList)) sep.data.toList).toArray⟩) ∧ Below w.heap.size w w' := Any.strings_Join Tryd.lays156 Tryd.Builder_Extra_156 bk o c xs sep w hcells hbk hN hcap hlen
def Tryd.laysM171_ren : Go.Shelf.Ren := ⟨fun | 171 => 23 | 243 => 30 | 246 => 35 | 283 => 42 | 284 => 43 | 285 => 44 | 286 => 45 | 129 => 59 | 317 => 58 | 318 => 60 | 319 => 61 | 320 => 62 | 337 => 72 | 338 => 73 | n => n, fun | 3 => 3 | 9 => 9 | 2 => 2 | 4 => 4 | 171 => 71 | 0 => 0 | 53 => 54 | 37 => 33 | 5 => 5 | 173 => 74 | 212 => 89 | 51 => 90 | 20 => 20 | 213 => 91 | 46 => 49 | 232 => 107 | 233 => 108 | n => n, fun | 17 => 0 | 18 => 4 | 19 => 5 | n => n⟩
theorem Tryd.laysM171 : Go.Proofs.LaysM.n171 Tryd.prog Tryd.laysM171_ren := {
  mixed := by kernel_rfl
  f129 := Tryd.func59.trans (congrArg some (by kernel_rfl))
  f171 := Tryd.func23.trans (congrArg some (by kernel_rfl))
  f243 := Tryd.func30.trans (congrArg some (by kernel_rfl))
  f246 := Tryd.func35.trans (congrArg some (by kernel_rfl))
  f283 := Tryd.func42.trans (congrArg some (by kernel_rfl))
  f284 := Tryd.func43.trans (congrArg some (by kernel_rfl))
  f285 := Tryd.func44.trans (congrArg some (by kernel_rfl))
  f286 := Tryd.func45.trans (congrArg some (by kernel_rfl))
  f317 := Tryd.func58.trans (congrArg some (by kernel_rfl))
  f318 := Tryd.func60.trans (congrArg some (by kernel_rfl))
  f319 := Tryd.func61.trans (congrArg some (by kernel_rfl))
  f320 := Tryd.func62.trans (congrArg some (by kernel_rfl))
  f337 := Tryd.func72.trans (congrArg some (by kernel_rfl))
  f338 := Tryd.func73.trans (congrArg some (by kernel_rfl))
  t0 := Tryd.underlying0
  a0 := Tryd.isAgg0
  z0 := Tryd.sizeOf0
  v0 := Tryd.zeroValue0
  t2 := Tryd.underlying2
  a2 := Tryd.isAgg2
  z2 := Tryd.sizeOf2
  v2 := Tryd.zeroValue2
  t3 := Tryd.underlying3
  a3 := Tryd.isAgg3
  z3 := Tryd.sizeOf3
  v3 := Tryd.zeroValue3
  t4 := Tryd.underlying4
  a4 := Tryd.isAgg4
  z4 := Tryd.sizeOf4
  v4 := Tryd.zeroValue4
  t5 := Tryd.underlying5
  a5 := Tryd.isAgg5
  z5 := Tryd.sizeOf5
  v5 := Tryd.zeroValue5
  t9 := Tryd.underlying9
  a9 := Tryd.isAgg9
  z9 := Tryd.sizeOf9
  v9 := Tryd.zeroValue9
  t20 := Tryd.underlying20
  a20 := Tryd.isAgg20
  z20 := Tryd.sizeOf20
  v20 := Tryd.zeroValue20
  t37 := Tryd.underlying33
  a37 := Tryd.isAgg33
  z37 := Tryd.sizeOf33
  v37 := Tryd.zeroValue33
  t46 := Tryd.underlying49
  a46 := Tryd.isAgg49
  z46 := Tryd.sizeOf49
  v46 := Tryd.zeroValue49
  t51 := Tryd.underlying90
  a51 := Tryd.isAgg90
  z51 := Tryd.sizeOf90
  v51 := Tryd.zeroValue90
  t53 := Tryd.underlying54
  a53 := Tryd.isAgg54
  z53 := Tryd.sizeOf54
  v53 := Tryd.zeroValue54
  t171 := Tryd.underlying71
  a171 := Tryd.isAgg71
  z171 := Tryd.sizeOf71
  v171 := Tryd.zeroValue71
  t173 := Tryd.underlying74
  a173 := Tryd.isAgg74
  z173 := Tryd.sizeOf74
  v173 := Tryd.zeroValue74
  t212 := Tryd.underlying89
  a212 := Tryd.isAgg89
  z212 := Tryd.sizeOf89
  v212 := Tryd.zeroValue89
  t213 := Tryd.underlying91
  a213 := Tryd.isAgg91
  z213 := Tryd.sizeOf91
  t232 := Tryd.underlying107
  a232 := Tryd.isAgg107
  z232 := Tryd.sizeOf107
  v232 := Tryd.zeroValue107
  t233 := Tryd.underlying108
  a233 := Tryd.isAgg108
  z233 := Tryd.sizeOf108
  v233 := Tryd.zeroValue108
  g17 := by kernel_rfl
  g18 := by kernel_rfl
  g19 := by kernel_rfl
  i0 := by kernel_rfl
  i2 := by kernel_rfl
  i3 := by kernel_rfl
  i4 := by kernel_rfl
  i5 := by kernel_rfl
  i9 := by kernel_rfl
  i20 := by kernel_rfl
  i37 := by kernel_rfl
  i46 := by kernel_rfl
  i51 := by kernel_rfl
  i53 := by kernel_rfl
  i171 := by kernel_rfl
  i173 := by kernel_rfl
  i212 := by kernel_rfl
  i232 := by kernel_rfl
  i233 := by kernel_rfl
  m17 := by kernel_rfl
  m18 := by kernel_rfl
  m19 := by kernel_rfl }
open Go.RowKit Go.Sort Go.Lib in
theorem Tryd.strconv_Itoa (n : Int) (h0 : -9223372036854775808 ≤ n) (h1 : n ≤ 9223372036854775807) (w : World) (htab : Lib.TabIs Tryd.prog w "internal/strconv.uint64pow10" .u64 Lib.pow10Tab) :
    Calls Tryd.prog 23 #[.int .i64 n] w fun e w' => e = .returned (.string ⟨(Lib.itoa n).toArray⟩) ∧ ∃ k os, w' = grow (w.drewN k) os := Any.strconv_Itoa Tryd.laysM171 n h0 h1 w htab
def Tryd.laysC245_ren : Go.Shelf.Ren := ⟨fun | 245 => 38 | 279 => 51 | 280 => 52 | 281 => 53 | 282 => 54 | 316 => 66 | 171 => 23 | 205 => 67 | 243 => 30 | 246 => 35 | 283 => 42 | 284 => 43 | 285 => 44 | 286 => 45 | 129 => 59 | 317 => 58 | 318 => 60 | 319 => 61 | 320 => 62 | 337 => 72 | 338 => 73 | n => n, fun | 9 => 9 | 3 => 3 | 75 => 56 | 167 => 78 | 4 => 4 | 168 => 81 | 210 => 99 | 37 => 33 | 0 => 0 | 127 => 70 | 145 => 104 | 143 => 102 | 2 => 2 | 171 => 71 | 53 => 54 | 5 => 5 | 173 => 74 | 212 => 89 | 51 => 90 | 20 => 20 | 213 => 91 | 46 => 49 | 232 => 107 | 233 => 108 | 80 => 67 | n => n, fun | 15 => 1 | 16 => 2 | 17 => 0 | 18 => 4 | 19 => 5 | n => n⟩
theorem Tryd.laysC245 : Go.Proofs.LaysC.n245 Tryd.prog Tryd.laysC245_ren := {
  mixed := by kernel_rfl
  f129 := Tryd.func59.trans (congrArg some (by kernel_rfl))
  f171 := Tryd.func23.trans (congrArg some (by kernel_rfl))
  f205 := Tryd.func67.trans (congrArg some (by kernel_rfl))
  f243 := Tryd.func30.trans (congrArg some (by kernel_rfl))
  f245 := Tryd.func38.trans (congrArg some (by kernel_rfl))
  f246 := Tryd.func35.trans (congrArg some (by kernel_rfl))
  f279 := Tryd.func51.trans (congrArg some (by kernel_rfl))
  f280 := Tryd.func52.trans (congrArg some (by kernel_rfl))
  f281 := Tryd.func53.trans (congrArg some (by kernel_rfl))
  f282 := Tryd.func54.trans (congrArg some (by kernel_rfl))
  f283 := Tryd.func42.trans (congrArg some (by kernel_rfl))
  f284 := Tryd.func43.trans (congrArg some (by kernel_rfl))
  f285 := Tryd.func44.trans (congrArg some (by kernel_rfl))
  f286 := Tryd.func45.trans (congrArg some (by kernel_rfl))
  f316 := Tryd.func66.trans (congrArg some (by kernel_rfl))
  f317 := Tryd.func58.trans (congrArg some (by kernel_rfl))
  f318 := Tryd.func60.trans (congrArg some (by kernel_rfl))
  f319 := Tryd.func61.trans (congrArg some (by kernel_rfl))
  f320 := Tryd.func62.trans (congrArg some (by kernel_rfl))
  f337 := Tryd.func72.trans (congrArg some (by kernel_rfl))
  f338 := Tryd.func73.trans (congrArg some (by kernel_rfl))
  t0 := Tryd.underlying0
  a0 := Tryd.isAgg0
  z0 := Tryd.sizeOf0
  v0 := Tryd.zeroValue0
  t2 := Tryd.underlying2
  a2 := Tryd.isAgg2
  z2 := Tryd.sizeOf2
  v2 := Tryd.zeroValue2
  t3 := Tryd.underlying3
  a3 := Tryd.isAgg3
  z3 := Tryd.sizeOf3
  v3 := Tryd.zeroValue3
  t4 := Tryd.underlying4
  a4 := Tryd.isAgg4
  z4 := Tryd.sizeOf4
  v4 := Tryd.zeroValue4
  t5 := Tryd.underlying5
  a5 := Tryd.isAgg5
  z5 := Tryd.sizeOf5
  v5 := Tryd.zeroValue5
  t9 := Tryd.underlying9
  a9 := Tryd.isAgg9
  z9 := Tryd.sizeOf9
  v9 := Tryd.zeroValue9
  t20 := Tryd.underlying20
  a20 := Tryd.isAgg20
  z20 := Tryd.sizeOf20
  v20 := Tryd.zeroValue20
  t37 := Tryd.underlying33
  a37 := Tryd.isAgg33
  z37 := Tryd.sizeOf33
  v37 := Tryd.zeroValue33
  t46 := Tryd.underlying49
  a46 := Tryd.isAgg49
  z46 := Tryd.sizeOf49
  v46 := Tryd.zeroValue49
  t51 := Tryd.underlying90
  a51 := Tryd.isAgg90
  z51 := Tryd.sizeOf90
  v51 := Tryd.zeroValue90
  t53 := Tryd.underlying54
  a53 := Tryd.isAgg54
  z53 := Tryd.sizeOf54
  v53 := Tryd.zeroValue54
  t75 := Tryd.underlying56
  a75 := Tryd.isAgg56
  z75 := Tryd.sizeOf56
  v75 := Tryd.zeroValue56
  t127 := Tryd.underlying70
  a127 := Tryd.isAgg70
  z127 := Tryd.sizeOf70
  v127 := Tryd.zeroValue70
  t143 := Tryd.underlying102
  a143 := Tryd.isAgg102
  z143 := Tryd.sizeOf102
  v143 := Tryd.zeroValue102
  t145 := Tryd.underlying104
  a145 := Tryd.isAgg104
  z145 := Tryd.sizeOf104
  v145 := Tryd.zeroValue104
  t167 := Tryd.underlying78
  a167 := Tryd.isAgg78
  z167 := Tryd.sizeOf78
  v167 := Tryd.zeroValue78
  t168 := Tryd.underlying81
  a168 := Tryd.isAgg81
  z168 := Tryd.sizeOf81
  v168 := Tryd.zeroValue81
  t171 := Tryd.underlying71
  a171 := Tryd.isAgg71
  z171 := Tryd.sizeOf71
  v171 := Tryd.zeroValue71
  t173 := Tryd.underlying74
  a173 := Tryd.isAgg74
  z173 := Tryd.sizeOf74
  v173 := Tryd.zeroValue74
  t210 := Tryd.underlying99
  a210 := Tryd.isAgg99
  z210 := Tryd.sizeOf99
  v210 := Tryd.zeroValue99
  t212 := Tryd.underlying89
  a212 := Tryd.isAgg89
  z212 := Tryd.sizeOf89
  v212 := Tryd.zeroValue89
  t213 := Tryd.underlying91
  a213 := Tryd.isAgg91
  z213 := Tryd.sizeOf91
  t232 := Tryd.underlying107
  a232 := Tryd.isAgg107
  z232 := Tryd.sizeOf107
  v232 := Tryd.zeroValue107
  t233 := Tryd.underlying108
  a233 := Tryd.isAgg108
  z233 := Tryd.sizeOf108
  v233 := Tryd.zeroValue108
  g15 := by kernel_rfl
  g16 := by kernel_rfl
  g17 := by kernel_rfl
  g18 := by kernel_rfl
  g19 := by kernel_rfl
  t80 := Tryd.underlying67
  a80 := Tryd.isAgg67
  z80 := Tryd.sizeOf67
  v80 := Tryd.zeroValue67
  i0 := by kernel_rfl
  i2 := by kernel_rfl
  i3 := by kernel_rfl
  i4 := by kernel_rfl
  i5 := by kernel_rfl
  i9 := by kernel_rfl
  i20 := by kernel_rfl
  i37 := by kernel_rfl
  i46 := by kernel_rfl
  i51 := by kernel_rfl
  i53 := by kernel_rfl
  i75 := by kernel_rfl
  i80 := by kernel_rfl
  i127 := by kernel_rfl
  i143 := by kernel_rfl
  i145 := by kernel_rfl
  i167 := by kernel_rfl
  i168 := by kernel_rfl
  i171 := by kernel_rfl
  i173 := by kernel_rfl
  i210 := by kernel_rfl
  i212 := by kernel_rfl
  i232 := by kernel_rfl
  i233 := by kernel_rfl
  m15 := by kernel_rfl
  m16 := by kernel_rfl
  m17 := by kernel_rfl
  m18 := by kernel_rfl
  m19 := by kernel_rfl
  c0 := by kernel_rfl
  c2 := by kernel_rfl
  c3 := by kernel_rfl
  c4 := by kernel_rfl
  c5 := by kernel_rfl
  c9 := by kernel_rfl
  c20 := by kernel_rfl
  c37 := by kernel_rfl
  c46 := by kernel_rfl
  c51 := by kernel_rfl
  c53 := by kernel_rfl
  c75 := by kernel_rfl
  c80 := by kernel_rfl
  c127 := by kernel_rfl
  c143 := by kernel_rfl
  c145 := by kernel_rfl
  c167 := by kernel_rfl
  c168 := by kernel_rfl
  c171 := by kernel_rfl
  c173 := by kernel_rfl
  c210 := by kernel_rfl
  c212 := by kernel_rfl
  c213 := by kernel_rfl
  c232 := by kernel_rfl
  c233 := by kernel_rfl }
open Go.RowKit in
theorem Tryd.strconv_toError_syntax (fn s : ByteArray) (base bits : Int) (ev : Value) (w : World) (hlim : s.size ≤ 281474976710656) (hv : w.cell? ⟨1, 0, none⟩ = some ev) (hev : ev = .nilIface ∨ ∃ te pe, ev = .iface te pe) :
    Calls Tryd.prog 38 #[.string fn, .string s, .int .i64 base, .int .i64 bits, .iface 78 (.int .i64 2)] w fun e w' => ∃ N, e = .returned (.iface 81 (.pointer (some ⟨N, 0, none⟩))) ∧ w.heap.size ≤ N ∧ w'.heap[N]? = some (.cells #[.string fn, .string s, ev] 99 (0, 0)) ∧ Below w.heap.size w w' := Any.strconv_toError_syntax Tryd.laysC245 fn s base bits ev w hlim hv hev
def Tryd.lays321_ren : Go.Shelf.Ren := ⟨fun | 321 => 49 | n => n, fun | 5 => 5 | n => n, fun | n => n⟩
theorem Tryd.lays321 : Go.Proofs.Lays.n321 Tryd.prog Tryd.lays321_ren := {
  mixed := by kernel_rfl
  f321 := Tryd.func49.trans (congrArg some (by kernel_rfl))
  t5 := Tryd.underlying5
  a5 := Tryd.isAgg5
  z5 := Tryd.sizeOf5
  v5 := Tryd.zeroValue5 }
open Go.RowKit in
theorem Tryd.internal_strconv_lower (c : Int) (w : World) :
    Calls Tryd.prog 49 #[.int .u8 c] w fun e w' => e = .returned (.int .u8 (bits .or .u8 c 32)) ∧ w' = w := Any.internal_strconv_lower Tryd.lays321 c w
def Tryd.lays287_ren : Go.Shelf.Ren := ⟨fun | 287 => 37 | 321 => 49 | 322 => 50 | n => n, fun | 9 => 9 | 3 => 3 | 53 => 54 | 75 => 56 | 4 => 4 | 167 => 78 | 5 => 5 | 46 => 49 | 37 => 33 | 0 => 0 | 21 => 21 | 80 => 67 | n => n, fun | n => n⟩
theorem Tryd.lays287 : Go.Proofs.Lays.n287 Tryd.prog Tryd.lays287_ren := {
  mixed := by kernel_rfl
  f287 := Tryd.func37.trans (congrArg some (by kernel_rfl))
  f321 := Tryd.func49.trans (congrArg some (by kernel_rfl))
  f322 := Tryd.func50.trans (congrArg some (by kernel_rfl))
  t0 := Tryd.underlying0
  a0 := Tryd.isAgg0
  z0 := Tryd.sizeOf0
  v0 := Tryd.zeroValue0
  t3 := Tryd.underlying3
  a3 := Tryd.isAgg3
  z3 := Tryd.sizeOf3
  v3 := Tryd.zeroValue3
  t4 := Tryd.underlying4
  a4 := Tryd.isAgg4
  z4 := Tryd.sizeOf4
  v4 := Tryd.zeroValue4
  t5 := Tryd.underlying5
  a5 := Tryd.isAgg5
  z5 := Tryd.sizeOf5
  v5 := Tryd.zeroValue5
  t9 := Tryd.underlying9
  a9 := Tryd.isAgg9
  z9 := Tryd.sizeOf9
  v9 := Tryd.zeroValue9
  t21 := Tryd.underlying21
  a21 := Tryd.isAgg21
  z21 := Tryd.sizeOf21
  v21 := Tryd.zeroValue21
  t37 := Tryd.underlying33
  a37 := Tryd.isAgg33
  z37 := Tryd.sizeOf33
  v37 := Tryd.zeroValue33
  t46 := Tryd.underlying49
  a46 := Tryd.isAgg49
  z46 := Tryd.sizeOf49
  v46 := Tryd.zeroValue49
  t53 := Tryd.underlying54
  a53 := Tryd.isAgg54
  z53 := Tryd.sizeOf54
  v53 := Tryd.zeroValue54
  t75 := Tryd.underlying56
  a75 := Tryd.isAgg56
  z75 := Tryd.sizeOf56
  v75 := Tryd.zeroValue56
  t167 := Tryd.underlying78
  a167 := Tryd.isAgg78
  z167 := Tryd.sizeOf78
  v167 := Tryd.zeroValue78 }
open Go.RowKit in
theorem Tryd.strconv_toError_range (fn s : ByteArray) (base bits : Int) (ev : Value) (w : World) (hlim : s.size ≤ 281474976710656) (hv : w.cell? ⟨2, 0, none⟩ = some ev) (hev : ev = .nilIface ∨ ∃ te pe, ev = .iface te pe) :
    Calls Tryd.prog 38 #[.string fn, .string s, .int .i64 base, .int .i64 bits, .iface 78 (.int .i64 1)] w fun e w' => ∃ N, e = .returned (.iface 81 (.pointer (some ⟨N, 0, none⟩))) ∧ w.heap.size ≤ N ∧ w'.heap[N]? = some (.cells #[.string fn, .string s, ev] 99 (0, 0)) ∧ Below w.heap.size w w' := Any.strconv_toError_range Tryd.laysC245 fn s base bits ev w hlim hv hev
open Go.RowKit in
theorem Tryd.internal_strconv_ParseUint_10_at8 (t : ByteArray) (hmax : t.size ≤ 9223372036854775806) (w : World) :
    Calls Tryd.prog 37 #[.string t, .int .i64 10, .int .i64 8] w fun e w' => e = .returned (Lib.uintTupleM 78 255 (Lib.parseUintB 8 t.data.toList)) ∧ (w' = w ∨ w' = Lib.bytesWorld w 5 t) := Any.internal_strconv_ParseUint_10_at8 Tryd.lays287 t hmax w
def Tryd.lays145_ren : Go.Shelf.Ren := ⟨fun | 145 => 29 | 220 => 39 | 219 => 55 | 217 => 68 | 225 => 69 | 224 => 70 | 267 => 71 | 266 => 75 | 314 => 76 | n => n, fun | 9 => 9 | 4 => 4 | 59 => 59 | 3 => 3 | 5 => 5 | 46 => 49 | 146 => 105 | 51 => 90 | n => n, fun | 1 => 3 | n => n⟩
theorem Tryd.lays145 : Go.Proofs.Lays.n145 Tryd.prog Tryd.lays145_ren := {
  mixed := by kernel_rfl
  f145 := Tryd.func29.trans (congrArg some (by kernel_rfl))
  f217 := Tryd.func68.trans (congrArg some (by kernel_rfl))
  f219 := Tryd.func55.trans (congrArg some (by kernel_rfl))
  f220 := Tryd.func39.trans (congrArg some (by kernel_rfl))
  f224 := Tryd.func70.trans (congrArg some (by kernel_rfl))
  f225 := Tryd.func69.trans (congrArg some (by kernel_rfl))
  f266 := Tryd.func75.trans (congrArg some (by kernel_rfl))
  f267 := Tryd.func71.trans (congrArg some (by kernel_rfl))
  f314 := Tryd.func76.trans (congrArg some (by kernel_rfl))
  t3 := Tryd.underlying3
  a3 := Tryd.isAgg3
  z3 := Tryd.sizeOf3
  v3 := Tryd.zeroValue3
  t4 := Tryd.underlying4
  a4 := Tryd.isAgg4
  z4 := Tryd.sizeOf4
  v4 := Tryd.zeroValue4
  t5 := Tryd.underlying5
  a5 := Tryd.isAgg5
  z5 := Tryd.sizeOf5
  v5 := Tryd.zeroValue5
  t9 := Tryd.underlying9
  a9 := Tryd.isAgg9
  z9 := Tryd.sizeOf9
  v9 := Tryd.zeroValue9
  t46 := Tryd.underlying49
  a46 := Tryd.isAgg49
  z46 := Tryd.sizeOf49
  v46 := Tryd.zeroValue49
  t51 := Tryd.underlying90
  a51 := Tryd.isAgg90
  z51 := Tryd.sizeOf90
  v51 := Tryd.zeroValue90
  t59 := Tryd.underlying59
  a59 := Tryd.isAgg59
  z59 := Tryd.sizeOf59
  v59 := Tryd.zeroValue59
  t146 := Tryd.underlying105
  a146 := Tryd.isAgg105
  z146 := Tryd.sizeOf105
  v146 := Tryd.zeroValue105
  g1 := by kernel_rfl }
open Go.RowKit Go.Lib in
theorem Tryd.strings_Cut (s sep : ByteArray) (m : Int) (w : World) (hs : s.size < 4294967281) (hm : w.cell? ⟨3, 0, none⟩ = some (.int .i64 m)) :
    Calls Tryd.prog 29 #[.string s, .string sep] w fun e w' => e = .returned (.tuple #[.string ⟨(Lib.cut s.data.toList sep.data.toList).1.toArray⟩, .string ⟨(Lib.cut s.data.toList sep.data.toList).2.1.toArray⟩, .bool (Lib.cut s.data.toList sep.data.toList).2.2]) ∧ ∃ n, w' = w.drewN n := Any.strings_Cut Tryd.lays145 s sep m w hs hm
def Tryd.lays100_ren : Go.Shelf.Ren := ⟨fun | 100 => 25 | 207 => 34 | n => n, fun | 9 => 9 | 4 => 4 | 3 => 3 | n => n, fun | n => n⟩
theorem Tryd.lays100 : Go.Proofs.Lays.n100 Tryd.prog Tryd.lays100_ren := {
  mixed := by kernel_rfl
  f100 := Tryd.func25.trans (congrArg some (by kernel_rfl))
  f207 := Tryd.func34.trans (congrArg some (by kernel_rfl))
  t3 := Tryd.underlying3
  a3 := Tryd.isAgg3
  z3 := Tryd.sizeOf3
  v3 := Tryd.zeroValue3
  t4 := Tryd.underlying4
  a4 := Tryd.isAgg4
  z4 := Tryd.sizeOf4
  v4 := Tryd.zeroValue4
  t9 := Tryd.underlying9
  a9 := Tryd.isAgg9
  z9 := Tryd.sizeOf9
  v9 := Tryd.zeroValue9 }
open Go.RowKit Go.Lib in
theorem Tryd.strings_HasSuffix (s p : ByteArray) (w : World) (hs : s.size ≤ 9223372036854775807) :
    Calls Tryd.prog 25 #[.string s, .string p] w fun e w' => e = .returned (.bool (Lib.hasSuffix s.data.toList p.data.toList)) ∧ w' = w := Any.strings_HasSuffix Tryd.lays100 s p w hs
def Tryd.lays146_ren : Go.Shelf.Ren := ⟨fun | 146 => 27 | 221 => 36 | 268 => 46 | 138 => 47 | 143 => 48 | 195 => 63 | 197 => 64 | 218 => 65 | 219 => 55 | 260 => 74 | 217 => 68 | 225 => 69 | 224 => 70 | 267 => 71 | 266 => 75 | 314 => 76 | n => n, fun | 9 => 9 | 31 => 40 | 3 => 3 | 4 => 4 | 0 => 0 | 105 => 94 | 21 => 21 | 5 => 5 | 46 => 49 | 119 => 109 | 139 => 112 | 138 => 111 | 146 => 105 | 51 => 90 | n => n, fun | 1 => 3 | 3 => 6 | 4 => 7 | n => n⟩
theorem Tryd.lays146 : Go.Proofs.Lays.n146 Tryd.prog Tryd.lays146_ren := {
  mixed := by kernel_rfl
  f138 := Tryd.func47.trans (congrArg some (by kernel_rfl))
  f143 := Tryd.func48.trans (congrArg some (by kernel_rfl))
  f146 := Tryd.func27.trans (congrArg some (by kernel_rfl))
  f195 := Tryd.func63.trans (congrArg some (by kernel_rfl))
  f197 := Tryd.func64.trans (congrArg some (by kernel_rfl))
  f217 := Tryd.func68.trans (congrArg some (by kernel_rfl))
  f218 := Tryd.func65.trans (congrArg some (by kernel_rfl))
  f219 := Tryd.func55.trans (congrArg some (by kernel_rfl))
  f221 := Tryd.func36.trans (congrArg some (by kernel_rfl))
  f224 := Tryd.func70.trans (congrArg some (by kernel_rfl))
  f225 := Tryd.func69.trans (congrArg some (by kernel_rfl))
  f260 := Tryd.func74.trans (congrArg some (by kernel_rfl))
  f266 := Tryd.func75.trans (congrArg some (by kernel_rfl))
  f267 := Tryd.func71.trans (congrArg some (by kernel_rfl))
  f268 := Tryd.func46.trans (congrArg some (by kernel_rfl))
  f314 := Tryd.func76.trans (congrArg some (by kernel_rfl))
  t0 := Tryd.underlying0
  a0 := Tryd.isAgg0
  z0 := Tryd.sizeOf0
  v0 := Tryd.zeroValue0
  t3 := Tryd.underlying3
  a3 := Tryd.isAgg3
  z3 := Tryd.sizeOf3
  v3 := Tryd.zeroValue3
  t4 := Tryd.underlying4
  a4 := Tryd.isAgg4
  z4 := Tryd.sizeOf4
  v4 := Tryd.zeroValue4
  t5 := Tryd.underlying5
  a5 := Tryd.isAgg5
  z5 := Tryd.sizeOf5
  v5 := Tryd.zeroValue5
  t9 := Tryd.underlying9
  a9 := Tryd.isAgg9
  z9 := Tryd.sizeOf9
  v9 := Tryd.zeroValue9
  t21 := Tryd.underlying21
  a21 := Tryd.isAgg21
  z21 := Tryd.sizeOf21
  v21 := Tryd.zeroValue21
  t31 := Tryd.underlying40
  a31 := Tryd.isAgg40
  z31 := Tryd.sizeOf40
  v31 := Tryd.zeroValue40
  t46 := Tryd.underlying49
  a46 := Tryd.isAgg49
  z46 := Tryd.sizeOf49
  v46 := Tryd.zeroValue49
  t51 := Tryd.underlying90
  a51 := Tryd.isAgg90
  z51 := Tryd.sizeOf90
  v51 := Tryd.zeroValue90
  t105 := Tryd.underlying94
  a105 := Tryd.isAgg94
  z105 := Tryd.sizeOf94
  v105 := Tryd.zeroValue94
  t119 := Tryd.underlying109
  a119 := Tryd.isAgg109
  z119 := Tryd.sizeOf109
  t138 := Tryd.underlying111
  a138 := Tryd.isAgg111
  z138 := Tryd.sizeOf111
  v138 := Tryd.zeroValue111
  t139 := Tryd.underlying112
  a139 := Tryd.isAgg112
  z139 := Tryd.sizeOf112
  v139 := Tryd.zeroValue112
  t146 := Tryd.underlying105
  a146 := Tryd.isAgg105
  z146 := Tryd.sizeOf105
  v146 := Tryd.zeroValue105
  g1 := by kernel_rfl
  g3 := by kernel_rfl
  g4 := by kernel_rfl }
open Go.RowKit Go.Lib in
theorem Tryd.strings_Split (s sep : ByteArray) (m : Int) (w : World) (hs : s.size < 4294967281) (hm : w.cell? ⟨3, 0, none⟩ = some (.int .i64 m)) (h1 : 1 ≤ sep.size) :
    Calls Tryd.prog 27 #[.string s, .string sep] w fun e w' =>
      e = .returned (.slice (some ⟨w.heap.size, 0, none⟩) (Lib.countB s sep + 1) (Lib.countB s sep + 1)) ∧ w' = w.alloc (.cells ((Lib.splitB sep 0 (Lib.countB s sep) s).map Value.string).toArray 9) := Any.strings_Split Tryd.lays146 (by kernel_rfl) s sep m w hs hm h1
open Go.RowKit Go.Lib in
theorem Tryd.strings_Split_chars (s sep : ByteArray) (w : World) (h0 : sep.size = 0) (hs : s.size < 4294967281) (hascii : ∀ (j : Nat) b, s.data.toList[j]? = some b → b.toNat < 128) :
    Calls Tryd.prog 27 #[.string s, .string sep] w fun e w' =>
      e = .returned (.slice (some ⟨(w.iter s s.size).heap.size, 0, none⟩) s.size s.size) ∧ w' = (w.iter s s.size).alloc (.cells ((Lib.charsB s).map Value.string).toArray 9) := Any.strings_Split_chars Tryd.lays146 (by kernel_rfl) s sep w h0 hs hascii
end Go.Proofs
set_option linter.unusedVariables false
set_option linter.unusedSimpArgs false
namespace Go.Proofs.YtghmlhdlkgjbeaaDoorAv
open Go Go.RowKit
def mk8 (l : List UInt8) : ByteArray := ⟨l.toArray⟩
def cutB (s sep : ByteArray) : ByteArray × ByteArray × Bool := (mk8 (Lib.cut s.data.toList sep.data.toList).1, mk8 (Lib.cut s.data.toList sep.data.toList).2.1, (Lib.cut s.data.toList sep.data.toList).2.2)
def cutC : CT := C2 dStr dStr (fun s _ => [s.size < 4294967281]) fun s sep => .tup [XT (cutB s sep).1, XT (cutB s sep).2.1, XB (cutB s sep).2.2]
theorem maxLen_glb {L : GH} {w : World} (hg : Glb L w) : ∃ m, w.cell? ⟨3, 0, none⟩ = some (.int .i64 m) := by
  obtain ⟨-, -, h, -⟩ := hg 3 [.int .i64] (by simp [glbT])
  obtain ⟨x, hx, ⟨i, rfl⟩, -⟩ := h 0 (.int .i64) rfl
  exact ⟨i, hx⟩
theorem cut_ok : CTok Tryd.prog 29 cutC := by
  refine ct_str2 Tryd.func29 rfl (by decide) (fun a b => by simp [XV.pd, pdL]) fun s sep hc L w hg hfr => ?_
  obtain ⟨m, hm⟩ := maxLen_glb hg
  refine (Tryd.strings_Cut s sep m w (hc _ (by simp)) hm).mono fun e w' ⟨he, n, hw⟩ => ⟨_, he, ?_, by rw [hw]; exact Below.drewN' w n⟩
  simp only [toAV, toAVL, VS]
  exact ⟨[_, _, _], rfl, by simp [VSL, VS, cutB, mk8]⟩
def cutPreB (s p : ByteArray) : ByteArray × Bool := (mk8 (Lib.trimPrefix s.data.toList p.data.toList), Lib.hasPrefix s.data.toList p.data.toList)
end Go.Proofs.YtghmlhdlkgjbeaaDoorAv
set_option linter.unusedVariables false
set_option linter.unusedSimpArgs false
namespace Go.Proofs.YtghmlhdlkgjbeaaDoorAv
open Go Go.RowKit
theorem VS_strs {L : GH} {w w' : World} {l : List ByteArray} {n : Nat} (hfr : L w.heap.size = none) (hn : n = l.length) {T : TypeId} (hw : w' = w.alloc (.cells (l.map Value.string).toArray T)) :
    VS L w' (toAV (strsL l)) (.slice (some ⟨w.heap.size, 0, none⟩) n n) := by
  rw [hw, hn]; exact VS_newStrs hfr
theorem below_alloc (w : World) (o : Obj) : Below w.heap.size w (w.alloc o) := (Below.refl _ w).alloc (Nat.le_refl _) o
/-- A text's pieces. -/
def splitS (s sep : ByteArray) : List ByteArray := (Lib.split s.data.toList sep.data.toList).map mk8
theorem splitB_eq (s sep : ByteArray) (h1 : 1 ≤ sep.size) : Lib.splitB sep 0 (Lib.countB s sep) s = splitS s sep := by
  have h := Lib.splitB_data sep 0 (Lib.countB s sep) s
  have e : ∀ l : List ByteArray, l = (l.map (·.data.toList)).map mk8 := by
    intro l
    rw [List.map_map]
    conv => lhs; rw [← List.map_id l]
    apply List.map_congr_left
    intro a _
    simp [mk8, Function.comp]
  rw [e (Lib.splitB sep 0 (Lib.countB s sep) s), h]
  unfold splitS Lib.split
  congr 2
theorem splitB_len (s sep : ByteArray) (h1 : 1 ≤ sep.size) : Lib.countB s sep + 1 = (splitS s sep).length := by
  rw [← splitB_eq s sep h1]
  exact (Lib.splitB_all sep h1 0 _ s rfl).symm
def splitC : CT := C2 dStr dStr (fun s sep => [s.size < 4294967281, 1 ≤ sep.size]) fun s sep => strsL (splitS s sep)
theorem split_ok : CTok Tryd.prog 27 splitC := by
  refine ct_str2 Tryd.func27 rfl (by decide) (fun a b => by simp [strsL, XV.pd]) fun s sep hc L w hg hfr => ?_
  obtain ⟨m, hm⟩ := maxLen_glb hg
  have h1 : 1 ≤ sep.size := hc _ (by simp)
  refine (Tryd.strings_Split s sep m w (hc _ (by simp)) hm h1).mono fun e w' ⟨he, hw⟩ => ⟨_, he, ?_, by rw [hw]; exact below_alloc w _⟩
  rw [splitB_eq s sep h1] at hw
  exact VS_strs (hfr _ (Nat.le_refl _)) (splitB_len s sep h1) hw
def replB (s old new : ByteArray) : ByteArray := mk8 (Lib.replaceAll s.data.toList old.data.toList new.data.toList)
end Go.Proofs.YtghmlhdlkgjbeaaDoorAv
set_option linter.unusedVariables false
set_option linter.unusedSimpArgs false
namespace Go.Proofs.YtghmlhdlkgjbeaaDoorAv
open Go
theorem index1_eq (c : UInt8) (l : List UInt8) : Lib.index (c :: l) [c] = 0 := by
  unfold Lib.index
  rw [if_pos (by simp [List.isPrefixOf])]
theorem index1_ne {b c : UInt8} (h : b ≠ c) (l : List UInt8) : Lib.index (b :: l) [c] = if Lib.index l [c] = -1 then -1 else Lib.index l [c] + 1 := by
  conv => lhs; unfold Lib.index
  rw [if_neg (by simp [List.isPrefixOf]; exact fun h' => h h'.symm)]
  simp
theorem index1_nil (c : UInt8) : Lib.index [] [c] = -1 := rfl
/-- What is ahead of the first such sign, and what behind it. -/
def cut1 (c : UInt8) : List UInt8 → List UInt8 × List UInt8 × Bool
  | [] => ([], [], false)
  | b :: l => if b = c then ([], l, true) else (b :: (cut1 c l).1, (cut1 c l).2.1, (cut1 c l).2.2)
theorem cut_one (c : UInt8) : ∀ l : List UInt8, Lib.cut l [c] = cut1 c l
  | [] => rfl
  | b :: l => by
    have ih := cut_one c l
    unfold Lib.cut at ih ⊢
    unfold cut1
    by_cases h : b = c
    · subst h
      rw [index1_eq, if_pos rfl, if_pos (by decide)]
      simp
    · rw [index1_ne h, if_neg h, ← ih]
      have hge := Lib.index_ge l [c]
      by_cases hi : Lib.index l [c] = -1
      · rw [if_pos hi, hi]; simp
      · rw [if_neg hi]
        have h0 : 0 ≤ Lib.index l [c] := by omega
        rw [if_pos (by omega), if_pos h0]
        obtain ⟨i, hi⟩ : ∃ i : Nat, Lib.index l [c] = i := ⟨(Lib.index l [c]).toNat, by omega⟩
        rw [hi]
        have e : ((i : Int) + 1).toNat = i + 1 := by omega
        simp [e]
/-- Cut at each such sign. -/
def split1 (c : UInt8) : List UInt8 → List (List UInt8)
  | [] => [[]]
  | b :: l => if b = c then [] :: split1 c l else match split1 c l with
    | h :: t => (b :: h) :: t
    | [] => [[b]]
theorem split1_ne (c : UInt8) : ∀ l, split1 c l ≠ []
  | [] => by simp [split1]
  | b :: l => by
    unfold split1
    split
    · simp
    · split <;> simp
theorem split_one (c : UInt8) : ∀ l : List UInt8, Lib.split l [c] = split1 c l
  | [] => rfl
  | b :: l => by
    have ih := split_one c l
    unfold Lib.split at ih ⊢
    unfold split1
    by_cases h : b = c
    · subst h
      rw [Lib.count_cons_eq, Nat.add_comm, if_pos rfl, ← ih]
      unfold Lib.splitK
      rw [index1_eq]
      cases hk : Lib.count l [b] with
      | zero => simp [Lib.splitK]
      | succ k => simp [Lib.splitK]
    · rw [Lib.count_cons_ne _ _ _ h, if_neg h, ← ih]
      cases hk : Lib.count l [c] with
      | zero => simp [Lib.splitK]
      | succ k =>
        obtain ⟨i, hi⟩ := Lib.index_of_count (s := l) (old := [c]) (by omega)
        unfold Lib.splitK
        have h1 : (if (i : Int) = -1 then -1 else (i : Int) + 1) = (i : Int) + 1 := if_neg (by omega)
        have e : ((i : Int) + 1).toNat = i + 1 := by omega
        have h2 : ¬ ((i : Int) + 1 = -1) := by omega
        have h3 : ¬ ((i : Int) = -1) := by omega
        rw [index1_ne h, hi, h1]
        simp [e, h2, h3]
def repl1 (c : UInt8) (new : List UInt8) (l : List UInt8) : List UInt8 := l.flatMap fun b => if b = c then new else [b]
theorem repl1_self (c : UInt8) (l : List UInt8) : repl1 c [c] l = l := by
  unfold repl1
  induction l with
  | nil => rfl
  | cons b l ih =>
    rw [List.flatMap_cons, ih]
    split
    · rename_i h; subst h; rfl
    · rfl
theorem replK_one (c : UInt8) (new : List UInt8) : ∀ l : List UInt8, Lib.replaceK [c] new (Lib.count l [c]) l = repl1 c new l
  | [] => rfl
  | b :: l => by
    have ih := replK_one c new l
    by_cases h : b = c
    · subst h
      rw [Lib.count_cons_eq, Nat.add_comm]
      unfold Lib.replaceK
      rw [index1_eq]
      simp only [repl1, List.flatMap_cons, if_true]
      rw [if_neg (by decide)]
      simp only [repl1] at ih
      simpa using ih
    · rw [Lib.count_cons_ne _ _ _ h]
      simp only [repl1, List.flatMap_cons, if_neg h]
      simp only [repl1] at ih
      rw [← ih]
      cases hk : Lib.count l [c] with
      | zero => simp [Lib.replaceK]
      | succ k =>
        obtain ⟨i, hi⟩ := Lib.index_of_count (s := l) (old := [c]) (by omega)
        unfold Lib.replaceK
        have h1 : (if (i : Int) = -1 then -1 else (i : Int) + 1) = (i : Int) + 1 := if_neg (by omega)
        have e : ((i : Int) + 1).toNat = i + 1 := by omega
        have h2 : ¬ ((i : Int) + 1 = -1) := by omega
        have h3 : ¬ ((i : Int) = -1) := by omega
        rw [index1_ne h, hi, h1]
        simp [e, h2, h3]
theorem repl_one (c : UInt8) (new l : List UInt8) : Lib.replaceAll l [c] new = repl1 c new l := by
  unfold Lib.replaceAll Lib.replace
  split
  · rename_i h
    have : [c] = new := by simpa using h
    rw [← this, repl1_self]
  · have : Lib.replaceNum l [c] (-1) = Lib.count l [c] := by simp [Lib.replaceNum]
    rw [this, replK_one]
end Go.Proofs.YtghmlhdlkgjbeaaDoorAv
set_option linter.unusedVariables false
set_option linter.unusedSimpArgs false
namespace Go.Proofs.YtghmlhdlkgjbeaaDoorAv
open Go Go.RowKit
theorem mk8_size (l : List UInt8) : (mk8 l).size = l.length := rfl
theorem mk8_data (l : List UInt8) : (mk8 l).data.toList = l := rfl
theorem data_mk8 (b : ByteArray) : mk8 b.data.toList = b := rfl
theorem size_data (b : ByteArray) : b.size = b.data.toList.length := by rw [Array.length_toList]; rfl
theorem cutB_one (s : ByteArray) (c : UInt8) : cutB s ⟨#[c]⟩ = (mk8 (cut1 c s.data.toList).1, mk8 (cut1 c s.data.toList).2.1, (cut1 c s.data.toList).2.2) := by
  unfold cutB
  rw [show ((⟨#[c]⟩ : ByteArray).data.toList) = [c] from rfl, cut_one]
theorem splitS_one (s : ByteArray) (c : UInt8) : splitS s ⟨#[c]⟩ = (split1 c s.data.toList).map mk8 := by
  unfold splitS
  rw [show ((⟨#[c]⟩ : ByteArray).data.toList) = [c] from rfl, split_one]
theorem replB_one (s n : ByteArray) (c : UInt8) : replB s ⟨#[c]⟩ n = mk8 (repl1 c n.data.toList s.data.toList) := by
  unfold replB
  rw [show ((⟨#[c]⟩ : ByteArray).data.toList) = [c] from rfl, repl_one]
theorem cut1_len (c : UInt8) : ∀ l : List UInt8, (cut1 c l).1.length ≤ l.length ∧ (cut1 c l).2.1.length ≤ l.length
  | [] => by simp [cut1]
  | b :: l => by
    have := cut1_len c l
    unfold cut1
    split <;> simp <;> omega
theorem split1_len (c : UInt8) : ∀ l : List UInt8, (split1 c l).length ≤ l.length + 1
  | [] => by simp [split1]
  | b :: l => by
    have := split1_len c l
    unfold split1
    split
    · simp; omega
    · split
      · rename_i h t heq; rw [heq] at this; simp at this ⊢; omega
      · simp
theorem repl1_len (c : UInt8) (n : List UInt8) (k : Nat) (hn : n.length ≤ k) (hk : 1 ≤ k) : ∀ l : List UInt8, (repl1 c n l).length ≤ k * l.length
  | [] => by simp [repl1]
  | b :: l => by
    have := repl1_len c n k hn hk l
    unfold repl1 at this ⊢
    rw [List.flatMap_cons, List.length_append, List.length_cons, Nat.mul_add, Nat.mul_one]
    split
    · omega
    · rw [List.length_singleton]; omega
theorem cutB_size (s : ByteArray) (c : UInt8) : (cutB s ⟨#[c]⟩).1.size ≤ s.size := by
  rw [cutB_one, size_data s]; exact (cut1_len c _).1
theorem replB_size (s n : ByteArray) (c : UInt8) (k : Nat) (hn : n.size ≤ k) (hk : 1 ≤ k) : (replB s ⟨#[c]⟩ n).size ≤ k * s.size := by
  rw [replB_one, size_data s]; exact repl1_len c _ k (by rw [← size_data]; exact hn) hk _
theorem splitS_len (s : ByteArray) (c : UInt8) : (splitS s ⟨#[c]⟩).length ≤ s.size + 1 := by
  rw [splitS_one, List.length_map, size_data s]; exact split1_len c _
theorem row_app {α : Type} (l : List α) (x d : α) (e : α → List XV) (j : Nat) (h : j < l.length + 1) : (bif j.blt l.length then e (l.getD j d) else e x) = e ((l ++ [x]).getD j d) := by
  rw [bltN]
  by_cases hj : j < l.length
  · rw [decide_eq_true hj, cond_true, List.getD_eq_getElem?_getD, List.getD_eq_getElem?_getD, List.getElem?_append_left hj]
  · have : j = l.length := by omega
    rw [decide_eq_false hj, cond_false, this, List.getD_eq_getElem?_getD, List.getElem?_append_right (Nat.le_refl _)]
    simp
theorem row_app2 {α : Type} (l : List α) (x d : α) (j : Nat) (h : j < l.length + 1) : (bif j.blt l.length then l.getD j d else x) = (l ++ [x]).getD j d := by
  rw [bltN]
  by_cases hj : j < l.length
  · rw [decide_eq_true hj, cond_true, List.getD_eq_getElem?_getD, List.getD_eq_getElem?_getD, List.getElem?_append_left hj]
  · have : j = l.length := by omega
    rw [decide_eq_false hj, cond_false, this, List.getD_eq_getElem?_getD, List.getElem?_append_right (Nat.le_refl _)]
    simp
theorem take_snoc' {α : Type} (l : List α) (i : Nat) (d : α) (h : i < l.length) : l.take (i + 1) = l.take i ++ [l.getD i d] := by
  rw [List.take_succ_eq_append_getElem h, List.getD_eq_getElem?_getD, List.getElem?_eq_getElem h]; rfl
theorem split1_each (c : UInt8) : ∀ l : List UInt8, ∀ x ∈ split1 c l, x.length ≤ l.length
  | [], x, hx => by simp [split1] at hx; simp [hx]
  | b :: l, x, hx => by
    have ih := split1_each c l
    unfold split1 at hx
    split at hx
    · rcases List.mem_cons.1 hx with rfl | hx
      · simp
      · have := ih x hx; simp; omega
    · split at hx
      · rename_i h t heq
        rcases List.mem_cons.1 hx with rfl | hx
        · have := ih h (by rw [heq]; simp); simp; omega
        · have := ih x (by rw [heq]; simp [hx]); simp; omega
      · simp at hx; simp [hx]
end Go.Proofs.YtghmlhdlkgjbeaaDoorAv
set_option linter.unusedVariables false
set_option linter.unusedSimpArgs false
namespace Go.Proofs.YtghmlhdlkgjbeaaDoorAv
open Go Go.RowKit
def hasSufB (s p : ByteArray) : Bool := Lib.hasSuffix s.data.toList p.data.toList
def hasSufC : CT := C2 dStr dStr (fun s _ => [s.size ≤ 1000000000]) fun s p => XB (hasSufB s p)
theorem hasSuf_ok : CTok Tryd.prog 25 hasSufC := by
  refine ct_str2 Tryd.func25 rfl (by decide) (fun a b => by simp [XV.pd]) fun s p hc L w hg hfr => ?_
  have h0 : s.size ≤ 1000000000 := hc _ (by simp)
  refine (Tryd.strings_HasSuffix s p w (by omega)).mono fun e w' ⟨he, hw⟩ => ⟨_, he, ?_, Below.same' hw⟩
  simp [toAV, VS, hasSufB]
theorem glb_tab {L : GH} {w : World} {P : Program} (hg : Glb L w) {name : String} {g : Nat} {k : IntKind} {zs : List Int} {vs : List GV} (hn : P.globalNamed name = some g) (hm : (g, vs) ∈ glbT) (hv : vs = zs.map fun z => GV.val (.int k z)) : Lib.TabIs P w name k zs := by
  obtain ⟨-, -, h, c, e, fr, hh, hs⟩ := hg g vs hm
  unfold Lib.TabIs World.var?
  rw [hn]
  simp only [Option.bind_some, hh, Option.some.injEq]
  apply Array.ext'
  apply List.ext_getElem?
  intro i
  subst hv
  rw [List.length_map] at hs
  rcases Nat.lt_or_ge i zs.length with hi | hi
  · obtain ⟨x, hx, hi', -⟩ := h i (.val (.int k zs[i])) (by rw [List.getElem?_map, List.getElem?_eq_getElem hi]; rfl)
    unfold World.cell? at hx
    simp only [hh] at hx
    rw [Array.getElem?_toList]
    have hx : c[i]? = some x := hx
    rw [hx, List.getElem?_map, List.getElem?_eq_getElem hi]
    have hi' : x = .int k zs[i] := hi'
    rw [hi']
    rfl
  · rw [List.getElem?_eq_none (by rw [Array.length_toList]; omega), List.getElem?_eq_none (by simpa using hi)]
def itoaB (n : Int) : ByteArray := mk8 (Lib.itoa n)
def itoaC : CT := C1 dInt (fun n => [0 ≤ n, n ≤ 1000000]) fun n => XT (itoaB n)
theorem pow10_glb {L : GH} {w : World} (hg : Glb L w) : Lib.TabIs Tryd.prog w "internal/strconv.uint64pow10" .u64 Lib.pow10Tab := by
  refine glb_tab hg (by kernel_rfl) (.tail _ (.head _)) (by kernel_rfl)
theorem itoa_ok : CTok Tryd.prog 23 itoaC := by
  refine ct_lib Tryd.func23 rfl (by decide) fun args cs v hC hc => ?_
  unfold itoaC C1 at hC
  split at hC
  · rename_i x
    split at hC
    · rename_i p n hx
      obtain ⟨rfl, rfl⟩ := dInt_dec hx
      simp only [List.nil_append, Option.some.injEq, Prod.mk.injEq] at hC
      obtain ⟨rfl, rfl⟩ := hC
      refine ⟨rfl, rfl, fun L w xs hg hfr hv => ?_⟩
      have h0 : 0 ≤ n := hc _ (by simp)
      have h1 : n ≤ 1000000 := hc _ (by simp)
      have := VSL_map_p (l := [.int .i64 n]) (xs := xs) (show VSL L w [AV.p (.int .i64 n)] xs from hv)
      subst this
      refine (Tryd.strconv_Itoa n (by omega) (by omega) w (pow10_glb hg)).mono fun e w' ⟨he, k, os, hw⟩ => ⟨_, he, by simp [toAV, VS, itoaB, mk8], by rw [hw]; exact Lib.below_grow w.heap.size w (Nat.le_refl _) k os⟩
    · cases hC
  · cases hC
def joinB (l : List ByteArray) (sep : ByteArray) : ByteArray := mk8 (Lib.join (l.map (·.data.toList)) sep.data.toList)
theorem intercalate_len (sep : List UInt8) (k : Nat) : ∀ l : List (List UInt8), (∀ x ∈ l, x.length ≤ k) → (sep.intercalate l).length ≤ l.length * (k + sep.length)
  | [], _ => by simp [List.intercalate]
  | [x], h => by
    have := h x (by simp)
    simp [List.intercalate]
    omega
  | x :: y :: l, h => by
    have h1 := h x (by simp)
    have ih := intercalate_len sep k (y :: l) (fun z hz => h z (by simp [hz]))
    have e : sep.intercalate (x :: y :: l) = x ++ (sep ++ sep.intercalate (y :: l)) := by simp [List.intercalate]
    rw [e, List.length_append, List.length_append, List.length_cons, Nat.add_mul, Nat.one_mul]
    omega
def joinC : CT := C2 dStrs dStr (fun q s => [q.n ≤ 1000, ∀ i, i < q.n → (q.g i).size ≤ 1000000, s.size ≤ 1000]) fun q s => XT (joinB ((List.range q.n).map q.g) s)
theorem join_ok : CTok Tryd.prog 24 joinC := by
  refine ct_lib2 Tryd.func24 rfl (by decide) dSl_ok dStr_eq.ok (fun _ _ => rfl) fun q s hc L w x y hg hfr hx hy => ?_
  have h0 : q.n ≤ 1000 := hc _ (by simp)
  have h1 : ∀ i, i < q.n → (q.g i).size ≤ 1000000 := hc _ (by simp)
  have h2 : s.size ≤ 1000 := hc _ (by simp)
  have hy : y = .string s := hy
  subst hy
  have hx : VS L w (.fz q.n (vecOf q.n 1 fun i => toAVL [XT (q.g i)])) x := hx
  simp only [VS] at hx
  obtain ⟨a, cap, vs, rfl, hle, hc', hvs⟩ := hx
  have e : (vecOf q.n 1 fun i => toAVL [XT (q.g i)]) = ((List.range q.n).map q.g).map fun s => .p (Value.string s) := by
    unfold vecOf
    rw [Nat.mul_one, List.map_map]
    apply List.map_congr_left
    intro i _
    simp [Nat.mod_one, toAVL, toAV]
  rw [e] at hvs
  have hv := VSL.of_p (fun s : ByteArray => Value.string s) _ vs hvs
  have hlen : ((List.range q.n).map q.g).length = q.n := by simp
  have out : ∀ w', VS L w' (toAV (XT (joinB ((List.range q.n).map q.g) s))) (.string ⟨(Lib.join (((List.range q.n).map q.g).map (·.data.toList)) s.data.toList).toArray⟩) := fun w' => by simp [toAV, VS, joinB, mk8]
  by_cases h00 : q.n = 0
  · rw [h00]
    refine (Tryd.strings_Join_none a cap s w).mono fun e w' ⟨he, hw⟩ => ⟨_, he, ?_, Below.same' hw⟩
    have := out w'
    rw [h00] at this
    exact this
  · rcases hc' with hc' | ⟨ad, rfl, _, _, hc'⟩
    · rw [hc'] at hv
      have := congrArg List.length hv
      rw [List.length_map, hlen] at this
      exact absurd this.symm h00
    · have hcell : ∀ (j : Nat) z, ((List.range q.n).map q.g)[j]? = some z → w.cell? (ad.add j) = some (.string z) := fun j z hz => hc' j _ (by rw [hv, List.getElem?_map, hz]; rfl)
      obtain ⟨b, o, sp⟩ := ad
      have h01 : ∃ z, w.cell? ⟨b, o, sp⟩ = some z := by
        have := hcell 0 (q.g 0) (by rw [List.getElem?_map, List.getElem?_range (by omega)]; rfl)
        exact ⟨_, this⟩
      obtain ⟨z, hz⟩ := h01
      have hb : b < w.heap.size := by
        refine Nat.lt_of_not_le fun hle => ?_
        unfold World.cell? at hz
        simp only [Array.getElem?_eq_none hle] at hz
        cases hz
      have hsp : sp = none := by
        unfold World.cell? at hz
        cases hh : w.heap[b]? with
        | none => simp only [hh] at hz; cases hz
        | some ob =>
          simp only [hh] at hz
          cases ob with
          | cells c e fr =>
            cases sp with
            | none => rfl
            | some _ => simp at hz
          | _ => simp at hz
      subst hsp
      have hj : (Lib.join (((List.range q.n).map q.g).map (·.data.toList)) s.data.toList).length ≤ 140737488355328 := by
        have h4 := intercalate_len s.data.toList 1000000 (((List.range q.n).map q.g).map (·.data.toList)) (fun x hx => by
          rw [List.map_map] at hx
          obtain ⟨i, hi, rfl⟩ := List.mem_map.1 hx
          have h5 := h1 i (List.mem_range.1 hi)
          rw [size_data] at h5
          show (q.g i).data.toList.length ≤ 1000000
          exact h5)
        rw [List.length_map, hlen, ← size_data] at h4
        have h3 : q.n * (1000000 + s.size) ≤ 1000 * (1000000 + 1000) := Nat.mul_le_mul h0 (by omega)
        unfold Lib.join
        omega
      have J := Tryd.strings_Join b o cap ((List.range q.n).map q.g) s w (fun j z hz => (add_plain b o j) ▸ hcell j z hz) hb (by omega) (by omega) hj
      rw [hlen] at J
      exact J.mono fun e w' ⟨he, hw⟩ => ⟨_, he, out w', hw⟩
end Go.Proofs.YtghmlhdlkgjbeaaDoorAv
