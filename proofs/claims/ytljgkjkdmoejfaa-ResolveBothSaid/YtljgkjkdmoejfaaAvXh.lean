/-
  SYMBOLIC RUNS over the model (own framework, part 21): operations that make blocks.
-/
import Derived.Test.YtljgkjkdmoejfaaAvXg
set_option linter.unusedVariables false
set_option linter.unusedSimpArgs false
namespace Go.Proofs.YtljgkjkdmoejfaaAv
open Go Go.RowKit

/-- A slot's value is a nil slice that is told as one's own. -/
theorem Rel.newN {F : Fr} {ρ : Rho} {S : XS} {t : TM} {L : GH} (h : Rel F ρ S t L) (e : TypeId) (sz : Nat) (f : Nat → List XV) :
    Rel F (ρ.set S.nx none) { S with h := (S.nx, .vec e true 0 sz f) :: S.h, nx := S.nx + 1 } t L := by
  have hnx := h.nx S.nx (Nat.le_refl _)
  have hm := set_mono (o := none) hnx
  refine ⟨fun i => RV.mono hm _ _ (h.sl i), fun i q hq => ?_, fun i j g' hi hj e1 e2 => ?_, fun i hi => ?_, fun b q hb => ?_, fun hp => pin_new hm (h.pin hp), RVL.mono hm _ _ h.gh⟩
  · simp only at hq
    rw [findR_put] at hq
    by_cases hi : i = S.nx
    · rw [if_pos hi] at hq
      obtain rfl := Option.some.inj hq
      subst hi
      exact .inr ⟨set_same _ _ _, e, sz, f, rfl⟩
    · rw [if_neg hi] at hq
      rcases h.rw i q hq with ⟨g', row', h1, h2, h3⟩ | ⟨h1, h2⟩
      · exact .inl ⟨g', row', hm _ _ h1, h2, h3.mono hm⟩
      · exact .inr ⟨hm _ _ h1, h2⟩
  · simp only at hi hj
    rw [findR_put] at hi hj
    have ni : i ≠ S.nx := by rintro rfl; rw [set_same] at e1; cases e1
    have nj : j ≠ S.nx := by rintro rfl; rw [set_same] at e2; cases e2
    rw [if_neg ni] at hi
    rw [if_neg nj] at hj
    rw [set_ne _ _ ni] at e1
    rw [set_ne _ _ nj] at e2
    exact h.inj i j g' hi hj e1 e2
  · simp only at hi
    rw [set_ne _ _ (by omega)]
    exact h.nx i (by omega)
  · obtain ⟨h1, h2⟩ := h.fr b q hb
    refine ⟨h1, fun i hi => ?_⟩
    simp only at hi
    rw [findR_put] at hi
    by_cases a1 : i = S.nx
    · rw [a1, set_same]; simp
    · rw [if_neg a1] at hi
      rw [set_ne _ _ a1]
      exact h2 i hi

theorem eqZ1_eq {a b : Value} (h : eqZ1 a b = true) : a = b := by
  unfold eqZ1 at h
  split at h
  · simp only [Bool.and_eq_true] at h
    obtain ⟨h1, h2⟩ := h
    rw [kb_eq h1]
    split at h2
    · rw [beqN, decide_eq_true_eq] at h2
      rw [h2]
    · cases h2
  · rw [beq_iff_eq] at h; rw [h]
  · rfl
  · rfl
  · cases h
theorem eqZ_eq : ∀ {l k : List Value}, eqZ l k = true → l = k
  | [], [], _ => rfl
  | a :: l, b :: k, h => by
    simp only [eqZ, Bool.and_eq_true] at h
    rw [eqZ1_eq h.1, eqZ_eq h.2]
  | [], _ :: _, h => by simp [eqZ] at h
  | _ :: _, [], h => by simp [eqZ] at h
theorem rep_vec {sz : Nat} {l : List Value} (hl : l.length = sz) : ∀ n, (repV n l).map AV.p = vecOf n sz fun _ => toAVL (l.map fun v => XV.v (.p v))
  | 0 => by simp [repV, vecOf]
  | n + 1 => by
    have e1 : toAVL (l.map fun v => XV.v (.p v)) = l.map AV.p := by
      rw [toAVL_map, List.map_map]; rfl
    have h1 : vecOf 1 sz (fun _ => toAVL (l.map fun v => XV.v (.p v))) = l.map AV.p := by
      rw [vecOf_one (g := fun _ => toAVL (l.map fun v => XV.v (.p v))) (by rw [e1]; simpa using hl), e1]
    rw [repV, List.map_append, rep_vec hl n, ← h1, vecOf_app, Nat.add_comm]
    apply vecOf_congr
    intro j hj
    cases Nat.blt j 1 <;> rfl

section
variable {P : Program} {N : Nat} {ops : Array Oper} {Q : Exit → TM → GH → Prop} {d : Option Nat} {ty : TypeId} {pos : String} {af : Array Edge} {op : Op} {ρ : Rho} {F : Fr} {S S' : XS} {t : TM} {L : GH} {v : XV} {os : List Oper}

theorem gxs_av : ∀ vs : List GV, toAVL (gxs vs) = vs.map GV.av
  | [] => rfl
  | .val v :: l => by simp only [gxs, toAVL, toAV, List.map_cons, GV.av, gxs_av l]
  | .int k :: l => by simp only [gxs, toAVL, toAV, List.map_cons, GV.av, gxs_av l]
  | .ifc :: l => by simp only [gxs, toAVL, toAV, List.map_cons, GV.av, gxs_av l]
theorem xev_ok (hR : Rel F ρ S t L) (x : Operand) : RV ρ (xev S.s x) (ev t x) := by
  cases x with
  | tmp n => exact hR.sl n
  | const v => simp [xev, RV, ev]
  | global g =>
    show RV ρ (match gfind glbT g with | some vs => .fp (gxs vs) | none => .top) (match gfind glbT g with | some vs => .fp (vs.map GV.av) | none => .top)
    cases gfind glbT g with
    | none => simp [RV]
    | some vs => simp only [RV]; exact ⟨[], by rw [gxs_av, List.append_nil]⟩
  | func f => simp [xev, RV, ev]
theorem st_none {G : List (Nat × Bool)} {y : XV} {b : AV} (h : RV ρ y b) (hc : ∀ p ∈ (y.st G none).1, p) : RV ρ (y.st G none).2 b := by
  cases y with
  | gd c k x =>
    simp only [RV] at h
    simp only [XV.st, sameK] at hc ⊢
    exact h.1 (all1 hc)
  | _ => exact h

theorem bytes_vec (b : ByteArray) : bytesAV b = vecOf b.size 1 fun j => toAVL [.v (.p (.int .u8 (sbyte b j)))] := by
  apply List.ext_getElem?
  intro c
  have hl : (bytesAV b).length = b.size := by
    have e : b.data.toList.length = b.size := by rw [Array.length_toList]; rfl
    simp only [bytesAV, List.length_map]
    exact e
  rcases Nat.lt_or_ge c b.size with h | h
  · have := vecOf_get (n := b.size) (sz := 1) (g := fun j => toAVL [.v (.p (.int .u8 (sbyte b j)))]) (i := c) (o := 0) h (by omega)
    rw [Nat.mul_one, Nat.add_zero] at this
    rw [this]
    simp only [bytesAV, List.getElem?_map]
    have hd : c < b.data.toList.length := by rw [Array.length_toList]; exact h
    rw [List.getElem?_eq_getElem hd]
    simp only [Option.map_some, toAVL, toAV, byteAV, sbyte, Int.toNat_natCast]
    rw [List.getD_eq_getElem?_getD, List.getD_eq_getElem?_getD, List.getElem?_eq_getElem hd]
    rfl
  · rw [List.getElem?_eq_none (by omega), List.getElem?_eq_none (by rw [vecOf_length]; omega)]

theorem xsrc_ok {h : List (Nat × XRow)} {sz m : Nat} {y : XV} {b : AV} {g : Nat → List XV} (hs : xsrc h sz y = some (m, g)) (hy : RV ρ y b) (L' : GH) : srcOf L' b = some (m, vecOf m sz fun i => toAVL (g i)) := by
  unfold xsrc at hs
  split at hs
  · split at hs
    · rename_i hb
      rw [beqN, decide_eq_true_eq] at hb
      simp only [Option.some.injEq, Prod.mk.injEq] at hs
      obtain ⟨rfl, rfl⟩ := hs
      subst hb
      simp only [RV, toAV] at hy
      rw [hy]; rfl
    · cases hs
  · split at hs
    · simp only [Option.some.injEq, Prod.mk.injEq] at hs
      obtain ⟨rfl, rfl⟩ := hs
      simp only [RV] at hy
      rw [hy]
      simp [srcOf, vecOf]
    · cases hs
  · cases hs

theorem xnew0_ok {X : Cx} (hX : X.ok P) {cs : List Prop} (hn : xnew0 X S op = some (cs, v, S')) (hc : ∀ p ∈ cs, p) (hR : Rel F ρ S t L) (hd : dok N d = true)
    (K : ∀ ρ' t' L', Rel F ρ' (S'.put d v) t' L' → JO P N ops Q os t' L') : JO P N ops Q (⟨d, op, ty, pos, af, none⟩ :: os) t L := by
  cases op with
  | alloc T =>
    simp only [xnew0] at hn
    split at hn
    · rename_i u z z1 z2 hu hi
      split at hn
      · rename_i h3
        simp only [Option.some.injEq, Prod.mk.injEq] at hn
        obtain ⟨rfl, rfl, rfl⟩ := hn
        refine R.alloc (okI_fnd hX.I hi) rfl (RVL.ones h3 (zcells_ok ρ z)) hd fun g hg => ?_
        refine K (ρ.set S.nx (some g)) _ _ (Rel.put (Rel.new hR hg ?_) d ?_)
        · simp only [RRow]; exact ⟨trivial, trivial, zcells_ok _ z⟩
        · simp only [RV]; exact ⟨g, set_same _ _ _, by simp⟩
      · cases hn
    · cases hn
  | box T x =>
    simp only [xnew0] at hn
    split at hn
    · rename_i h1
      simp only [Option.some.injEq, Prod.mk.injEq] at hn
      obtain ⟨rfl, rfl, rfl⟩ := hn
      obtain ⟨k1, k2⟩ := RV.cells h1 (st_none (xev_ok hR x) hc)
      refine JO.box rfl k2 hd fun g hg => ?_
      refine K (ρ.set S.nx (some g)) _ _ (Rel.put (Rel.new hR hg ?_) d ?_)
      · simp only [RRow]; exact ⟨trivial, trivial, RVL.mono (set_mono (hR.nx _ (Nat.le_refl _))) _ _ k1⟩
      · simp only [RV]; exact ⟨g, set_same _ _ _, by simp⟩
    · cases hn
  | makeSlice T x y =>
    simp only [xnew0] at hn
    split at hn
    · rename_i k l k' c e hx hy ht
      split at hn
      · rename_i z sz b hi
        split at hn
        · rename_i s' h2 h1
          simp only [Option.some.injEq, Prod.mk.injEq] at hn
          obtain ⟨rfl, rfl, rfl⟩ := hn
          have v1 := st_none (xev_ok hR x) (allL hc)
          have v2 := st_none (xev_ok hR y) (allL (allR hc))
          rw [hx] at v1
          rw [hy] at v2
          simp only [RV] at v1 v2
          have hcs := allR (allR hc)
          have c1 : 0 ≤ l := hcs _ (by simp)
          have c2 : l ≤ c := hcs _ (by simp)
          have c3 : c.toNat * b ≤ 140737488355328 := hcs _ (by simp)
          have c4 : c ≤ 140737488355328 := hcs _ (by simp)
          rw [beqN, decide_eq_true_eq] at h1
          have hrep : ∀ n, repl n z.cells.toList = repV n z.cells.toList := by
            intro n
            induction n with
            | zero => rfl
            | succ n ih => rw [repl, repV, ih]
          refine JO.makeSlice (okU_fnd hX.U ht) (okI_fnd hX.I hi) (by simpa using h1) v1 v2 c1 c2 c3 c4 (by omega) (RVL.ones h2 (zcells_ok ρ z)) hd fun g hg => ?_
          refine K (ρ.set S.nx (some g)) _ _ (Rel.put (Rel.new hR hg ?_) d ?_)
          · simp only [RRow]; rw [hrep, rep_vec h1]; rfl
          · simp only [RV]; exact .inl ⟨g, set_same _ _ _, by simp⟩
        · cases hn
      · cases hn
    · cases hn
  | convert Sx T x =>
    simp only [xnew0] at hn
    split at hn
    · rename_i e b hs ht hx
      split at hn
      · rename_i he
        simp only [Option.some.injEq, Prod.mk.injEq] at hn
        obtain ⟨rfl, rfl, rfl⟩ := hn
        have h1 := st_none (xev_ok hR x) hc
        rw [hx] at h1
        simp only [RV] at h1
        refine JO.toBytes (okU_fnd hX.U hs) (okU_fnd hX.U ht) (okU_fnd hX.U he) h1 hd fun g hg => ?_
        refine K (ρ.set S.nx (some g)) _ _ (Rel.put (Rel.new hR hg ?_) d ?_)
        · simp only [RRow]; rw [bytes_vec]
        · simp only [RV]; exact .inl ⟨g, set_same _ _ _, by simp⟩
      · cases hn
    · cases hn
  | call c =>
    obtain ⟨ce, ar, at'⟩ := c
    cases ce with
    | value y0 =>
      cases y0 with
      | func f =>
        simp only [xnew0] at hn
        split at hn
        · rename_i T M hM
          split at hn
          · rename_i cs' cells hm
            split at hn
            · rename_i h1
              simp only [Option.some.injEq, Prod.mk.injEq] at hn
              obtain ⟨rfl, rfl, rfl⟩ := hn
              obtain ⟨⟨fn, co, f1, f2, f3⟩, f4⟩ := hX.N f T M hM
              have hargs := xargs_ok ρ (ev t) ar.toList (fun x _ hc => st_none (xev_ok hR x) hc) (allL hc)
              obtain ⟨ds, k1, k2⟩ := f4 _ _ _ hm (allR hc) ρ _ hargs
              have := JO.call (P := P) (N := N) (ops := ops) (Q := Q) (d := d) (ty := ty) (pos := pos) (af := af) (os := os) (t := t) (L := L) (xs := ar.toList) (tys := at') f1 f2 f3 hd (k2 L) (by
                rintro r L' ⟨g, hg, rfl, rfl⟩
                refine K (ρ.set S.nx (some g)) _ _ (Rel.put (Rel.new hR hg ?_) d ?_)
                · simp only [RRow]; exact ⟨trivial, trivial, RVL.mono (set_mono (hR.nx _ (Nat.le_refl _))) _ _ k1⟩
                · simp only [RV]; exact ⟨g, set_same _ _ _, by simp⟩)
              simpa using this
            · cases hn
          · cases hn
        · cases hn
      | _ => simp [xnew0] at hn
    | invoke a b => simp [xnew0] at hn
    | builtin bi =>
    simp only [xnew0] at hn
    split at hn
    · rename_i x y T T' hcc hca hct
      injection hcc with hcc
      subst hcc
      have h1 : ar = #[x, y] := by rw [← Array.toArray_toList (xs := ar), hca]
      have h2 : at' = #[T, T'] := by rw [← Array.toArray_toList (xs := at'), hct]
      subst h1 h2
      split at hn
      · rename_i e hTT hu
        rw [beqN, decide_eq_true_eq] at hTT
        subst hTT
        split at hn
        · rename_i z sz b hi
          obtain ⟨ti, k1, k2, k3, k4⟩ := (okI_fnd hX.I hi).get
          split at hn
          · rename_i m g s' hsr hzl
            rw [beqN, decide_eq_true_eq] at hzl
            have hzz : z.cells.size = s' + 1 := by simpa using hzl
            have e2 : ∀ {l1 l2 : List Prop}, cs = l1 ++ (((xev S.s y).st [] none).1 ++ l2) → RV ρ ((xev S.s y).st [] none).2 (ev t y) := fun h => st_none (xev_ok hR y) (by rw [h] at hc; exact allL (allR hc))
            split at hn
            · rename_i hx
              simp only [Option.some.injEq, Prod.mk.injEq] at hn
              obtain ⟨rfl, rfl, rfl⟩ := hn
              have e1 := st_none (xev_ok hR x) (allL hc)
              have hb1 : m * b ≤ 140737488355328 := all1 (allR (allR hc))
              have hb2 : m ≤ 140737488355328 := all2 (allR (allR hc))
              rw [hx] at e1
              simp only [RV] at e1
              refine JO.append' (L0 := L) (og := none) (cs := []) (n := 0) (m := m) (ys := vecOf m (s' + 1) fun i => toAVL (g i)) (okU_fnd hX.U hu) k1 k2 k3 hzz (fun g h => by cases h) e1 (fun _ => ⟨rfl, rfl⟩) (by simp) (xsrc_ok hsr (e2 rfl) _) (vecOf_length _ _ _) (by rw [Nat.zero_add, k4]; exact hb1) (by omega) (Nat.succ_pos _) hd fun og' hF hnil => ?_
              rw [List.nil_append, Nat.zero_add]
              cases og' with
              | some g' =>
                refine K (ρ.set S.nx (some g')) _ _ (Rel.put (Rel.new hR (hF g' rfl) ?_) d ?_)
                · simp only [RRow]
                · simp only [RV]; exact .inl ⟨g', set_same _ _ _, by simp [hv]⟩
              | none =>
                have hm0 : m = 0 := by have := (hnil rfl).2; omega
                subst hm0
                refine K (ρ.set S.nx none) _ _ (Rel.put (Rel.newN hR e (s' + 1) g) d ?_)
                simp only [RV]
                exact .inr ⟨set_same _ _ _, trivial, trivial, rfl⟩
            · rename_i id s n hx
              split at hn
              · rename_i e' n' s2 f hq
                split at hn
                · rename_i q1 q2 q3
                  simp only [zipBif_eq, Option.some.injEq, Prod.mk.injEq] at hn
                  obtain ⟨rfl, rfl, rfl⟩ := hn
                  rw [beqN, decide_eq_true_eq] at q1 q2 q3
                  subst q1 q2 q3
                  have e1 := st_none (xev_ok hR x) (allL hc)
                  have hc3 := allR (allR hc)
                  have hnn : n' = n := all1 hc3
                  have hb1 : (n + m) * b ≤ 140737488355328 := all2 hc3
                  have hb2 : n + m ≤ 140737488355328 := all3 hc3
                  subst hnn
                  rw [hx] at e1
                  simp only [RV] at e1
                  have go : ∀ (L0 : GH) (og : Option Nat), L = updo L0 og ⟨e, true, vecOf n' (s' + 1) fun i => toAVL (f i)⟩ → Fre L0 og → ρ id = some og → ev t x = hv og (s' + 1) n' → (og = none → n' = 0) →
                      JO P N ops Q (⟨d, .call { callee := .builtin .append, args := #[x, y], argTypes := #[T, T] }, ty, pos, af, none⟩ :: os) t L := by
                    intro L0 og hL hF hid hxe hnil
                    subst hL
                    refine JO.append' (L0 := L0) (og := og) (cs := vecOf n' (s' + 1) fun i => toAVL (f i)) (n := n') (m := m) (ys := vecOf m (s' + 1) fun i => toAVL (g i)) (okU_fnd hX.U hu) k1 k2 k3 hzz hF hxe (fun h => ⟨by rw [hnil h]; simp [vecOf], hnil h⟩) (vecOf_length _ _ _) (xsrc_ok hsr (e2 rfl) _) (vecOf_length _ _ _)
                      (by rw [k4]; exact hb1) hb2 (Nat.succ_pos _) hd fun og' hF' hnil' => ?_
                    have hR2 := Rel.renew (r := .vec e true (n' + m) (s' + 1) fun j => bif Nat.blt j n' then f j else g (j - n')) (row := ⟨e, true, (vecOf n' (s' + 1) fun i => toAVL (f i)) ++ vecOf m (s' + 1) fun i => toAVL (g i)⟩) hR hF hq hid hF' (by intro e ap cs h; cases h) (by
                      cases og' with
                      | some g' =>
                        refine .inl ⟨g', rfl, ?_⟩
                        simp only [RRow]
                        rw [vecOf_app]
                        congr 1
                        apply vecOf_congr
                        intro j _
                        cases Nat.blt j n' <;> rfl
                      | none =>
                        have : n' + m = 0 := (hnil' rfl).2
                        exact .inr ⟨rfl, e, s' + 1, _, by rw [this]⟩)
                    refine K _ _ _ (Rel.put hR2 d ?_)
                    simp only [RV]
                    cases og' with
                    | some g' => exact .inl ⟨g', set_same _ _ _, by simp [hv]⟩
                    | none => exact .inr ⟨set_same _ _ _, (hnil' rfl).2, trivial, rfl⟩
                  rcases e1 with ⟨g0, hid, hxe⟩ | ⟨hid, hn0, -, hxe⟩
                  · obtain ⟨row, hL, hrow⟩ := (hR.rw id _ hq).some_g hid
                    simp only [RRow] at hrow
                    subst hrow
                    refine go (del L g0) (some g0) ?_ (fun g' h => by obtain rfl := Option.some.inj h; simp [del]) hid (by rw [hxe]; simp [hv]) (fun h => by cases h)
                    funext b'
                    simp only [updo, upd, del]
                    split
                    · rename_i hb'; rw [hb', hL]
                    · rfl
                  · exact go L none rfl (fun g' h => by cases h) hid (by rw [hxe]; rfl) (fun _ => hn0)
                · cases hn
              · cases hn
            · rename_i n s f hx
              split at hn
              · rename_i q1
                simp only [zipBif_eq, Option.some.injEq, Prod.mk.injEq] at hn
                obtain ⟨rfl, rfl, rfl⟩ := hn
                rw [beqN, decide_eq_true_eq] at q1
                subst q1
                have e1 := st_none (xev_ok hR x) (allL hc)
                have hb1 : (n + m) * b ≤ 140737488355328 := all1 (allR (allR hc))
                have hb2 : n + m ≤ 140737488355328 := all2 (allR (allR hc))
                rw [hx] at e1
                simp only [RV] at e1
                refine JO.appendC (L := L) (n := n) (m := m) (cs := vecOf n (s' + 1) fun i => toAVL (f i)) (ys := vecOf m (s' + 1) fun i => toAVL (g i)) (okU_fnd hX.U hu) k1 k2 k3 hzz e1 (vecOf_length _ _ _) (xsrc_ok hsr (e2 rfl) _) (vecOf_length _ _ _) (by rw [k4]; exact hb1) hb2 (Nat.succ_pos _) hd ?_
                refine K ρ _ _ (Rel.put hR d ?_)
                simp only [RV, toAV]
                rw [vecOf_app]
                congr 1
                apply vecOf_congr
                intro j _
                cases Nat.blt j n <;> rfl
              · cases hn
            · cases hn
          · cases hn
        · cases hn
      · cases hn
    · cases hn
  | _ => simp [xnew0] at hn
theorem xnew_ok {X : Cx} (hX : X.ok P) {cs : List Prop} (hn : xnew X S op = some (cs, v, S')) (hc : ∀ p ∈ cs, p) (hR : Rel F ρ S t L) (hd : dok N d = true)
    (K : ∀ ρ' t' L', Rel F ρ' (S'.put d v) t' L' → JO P N ops Q os t' L') : JO P N ops Q (⟨d, op, ty, pos, af, none⟩ :: os) t L := xnew0_ok hX hn hc hR.pl hd K
end
end Go.Proofs.YtljgkjkdmoejfaaAv
