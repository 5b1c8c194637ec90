/-
  ABSTRACT VALUES over the model (own framework, part 1): what is known of slots and of memory of the call's own, kept apart from the world.
  AV: a value as a proof knows it. GH: blocks of the call's own, by their numbers, with what their cells are known to be. Sim: a frame and a world are as told.
  J: a piece of code, from what is told before it to what is told behind it. JF: a function's contract in these words.
-/
import Derived.Test.YtljgkjkdmoejfaaAvGlb
import Derived.Deep.LoopGhost
import Derived.Laws.OwnMore
import Derived.Laws.CopyRow
import Derived.Lib.ConvBytes
import Derived.Below
import Derived.KernelRfl
set_option linter.unusedVariables false
set_option linter.unusedSimpArgs false
namespace Go.Proofs.YtljgkjkdmoejfaaAv
open Go Go.RowKit

/-- A value as it is known. `p v`: just v. `sl g sz off n`: n elements of sz cells each, from cell off of own block g on. `ptr g off`: the address of cell off of own block g.
`fz n cs`: a slice of n elements in memory that nobody writes any more; its cells are cs. `fp cs`: an address in such memory; from there on lie cs. `agg cs`: a struct or an array by value. -/
inductive AV where
  | p (v : Value)
  | sl (g sz off n : Nat)
  | ptr (g off : Nat)
  | fz (n : Nat) (cs : List AV)
  | fzc (n : Nat) (cs : List AV)
  | fp (cs : List AV)
  | agg (cs : List AV)
  | tup (cs : List AV)
  | iface (t : TypeId) (v : AV)
  | fn (f : Fn) (cs : List AV)
  | top
  deriving Inhabited

/-- A block of one's own: its cells' element type; may it be appended to; its first cells. -/
structure Row where
  e : TypeId
  ap : Bool
  cs : List AV

abbrev GH := Nat → Option Row
abbrev TM := Nat → AV

/-- From the address on lie these cells, in memory that is not one's own. -/
def CellsAt (L : GH) (w : World) (a : Option Addr) (vs : List Value) : Prop :=
  vs = [] ∨ ∃ ad, a = some ad ∧ L ad.block = none ∧ (∀ v ∈ vs, v.oneCell' = true) ∧ ∀ i v, vs[i]? = some v → w.cell? (ad.add i) = some v

mutual
def VS (L : GH) (w : World) : AV → Value → Prop
  | .p v, x => x = v
  | .sl g sz off n, x => ∃ a cap, x = .slice a n cap ∧ n ≤ cap ∧ (cap = 0 ∨ (a = some ⟨g, off, none⟩ ∧ ∃ c e fr, w.heap[g]? = some (.cells c e fr) ∧ off + cap * sz ≤ c.size))
  | .ptr g off, x => x = .pointer (some ⟨g, off, none⟩)
  | .fz n cs, x => ∃ a cap vs, x = .slice a n cap ∧ n ≤ cap ∧ CellsAt L w a vs ∧ VSL L w cs vs
  | .fzc n cs, x => ∃ a vs, x = .slice a n n ∧ CellsAt L w a vs ∧ VSL L w cs vs
  | .fp cs, x => ∃ a vs, x = .pointer (some a) ∧ CellsAt L w (some a) vs ∧ VSL L w cs vs
  | .agg cs, x => ∃ vs : List Value, x = .agg vs.toArray ∧ VSL L w cs vs
  | .tup cs, x => ∃ vs : List Value, x = .tuple vs.toArray ∧ VSL L w cs vs
  | .iface t v, x => ∃ y, x = .iface t y ∧ VS L w v y
  | .fn f cs, x => ∃ vs : List Value, x = .func f #[] vs.toArray ∧ VSL L w cs vs
  | .top, _ => True
def VSL (L : GH) (w : World) : List AV → List Value → Prop
  | [], [] => True
  | c :: cs, v :: vs => VS L w c v ∧ VSL L w cs vs
  | [], _ :: _ => False
  | _ :: _, [] => False
end

/-- An own block is as told. -/
def RowR (L : GH) (w : World) (g : Nat) (r : Row) : Prop :=
  ∃ c fr vs, w.heap[g]? = some (.cells c r.e fr) ∧ (r.ap = true → fr = (0, 0)) ∧ (∀ o, o < c.size → ¬ (fr.1 ≤ o ∧ o < fr.2)) ∧
    r.cs.length ≤ c.size ∧ vs = c.toList.take r.cs.length ∧ VSL L w r.cs vs ∧ ∀ v ∈ vs, v.oneCell' = true

/-- One world behind another: what is not one's own stays; nothing that was there becomes one's own; blocks of cells stay so, of their size. -/
structure Ext (L : GH) (w : World) (L' : GH) (w' : World) : Prop where
  os : w'.os = w.os
  tape : w'.tape = w.tape
  output : w'.output = w.output
  size : w.heap.size ≤ w'.heap.size
  keep : ∀ b, b < w.heap.size → L b = none → w'.heap[b]? = w.heap[b]?
  dom : ∀ b, b < w.heap.size → L b = none → L' b = none
  shape : ∀ (b : Nat) (c : Array Value) (e : TypeId) (fr : Nat × Nat), w.heap[b]? = some (Obj.cells c e fr) → ∃ (c' : Array Value) (e' : TypeId) (fr' : Nat × Nat), w'.heap[b]? = some (Obj.cells c' e' fr') ∧ c'.size = c.size

theorem Ext.refl (L : GH) (w : World) : Ext L w L w := ⟨rfl, rfl, rfl, Nat.le_refl _, fun _ _ _ => rfl, fun _ _ h => h, fun _ c e fr h => ⟨c, e, fr, h, rfl⟩⟩

theorem Ext.trans {L L1 L2 : GH} {w w1 w2 : World} (h : Ext L w L1 w1) (k : Ext L1 w1 L2 w2) : Ext L w L2 w2 :=
  ⟨k.os.trans h.os, k.tape.trans h.tape, k.output.trans h.output, Nat.le_trans h.size k.size,
    fun b hb hl => (k.keep b (Nat.lt_of_lt_of_le hb h.size) (h.dom b hb hl)).trans (h.keep b hb hl),
    fun b hb hl => k.dom b (Nat.lt_of_lt_of_le hb h.size) (h.dom b hb hl),
    fun b c e fr hc => by
      obtain ⟨c1, e1, fr1, h1, s1⟩ := h.shape b c e fr hc
      obtain ⟨c2, e2, fr2, h2, s2⟩ := k.shape b c1 e1 fr1 h1
      exact ⟨c2, e2, fr2, h2, s2.trans s1⟩⟩

/-- Fewer blocks are told. -/
theorem Ext.drop {L L' : GH} (w : World) (h : ∀ b, L b = none → L' b = none) : Ext L w L' w :=
  ⟨rfl, rfl, rfl, Nat.le_refl _, fun _ _ _ => rfl, fun b _ hb => h b hb, fun _ c e fr h => ⟨c, e, fr, h, rfl⟩⟩

/-- An order is drawn. -/
theorem Ext.drew (L : GH) (w : World) : Ext L w L w.drew := ⟨rfl, rfl, rfl, Nat.le_refl _, fun _ _ _ => rfl, fun _ _ h => h, fun _ c e fr h => ⟨c, e, fr, h, rfl⟩⟩

theorem CellsAt.ext {L L' : GH} {w w' : World} (h : Ext L w L' w') {a : Option Addr} {vs : List Value} (k : CellsAt L w a vs) : CellsAt L' w' a vs := by
  rcases k with k | ⟨ad, ha, hl, h1, hc⟩
  · exact .inl k
  · cases vs with
    | nil => exact .inl rfl
    | cons v vs =>
      have hb : ad.block < w.heap.size := by
        have := World.block_lt_of_cell? w _ (hc 0 v rfl)
        have e : ad.add 0 = ad := rfl
        rwa [e] at this
      refine .inr ⟨ad, ha, h.dom _ hb hl, h1, fun i u hu => ?_⟩
      have e : (ad.add i).block = ad.block := by unfold Addr.add; split <;> rfl
      rw [World.cell?_of_block (w := w) (by rw [e]; exact h.keep _ hb hl)]
      exact hc i u hu

mutual
theorem VS.ext {L L' : GH} {w w' : World} (h : Ext L w L' w') : ∀ (v : AV) (x : Value), VS L w v x → VS L' w' v x
  | .p v, x, hx => by simpa [VS] using hx
  | .sl g sz off n, x, hx => by
    simp only [VS] at hx ⊢
    obtain ⟨a, cap, rfl, hn, hc⟩ := hx
    refine ⟨a, cap, rfl, hn, ?_⟩
    rcases hc with hc | ⟨ha, c, e, fr, hh, hs⟩
    · exact .inl hc
    · obtain ⟨c', e', fr', h', s'⟩ := h.shape _ _ _ _ hh
      exact .inr ⟨ha, c', e', fr', h', by omega⟩
  | .ptr g off, x, hx => by simpa [VS] using hx
  | .fz n cs, x, hx => by
    simp only [VS] at hx ⊢
    obtain ⟨a, cap, vs, rfl, hn, hc, hv⟩ := hx
    exact ⟨a, cap, vs, rfl, hn, hc.ext h, VSL.ext h cs vs hv⟩
  | .fzc n cs, x, hx => by
    simp only [VS] at hx ⊢
    obtain ⟨a, vs, rfl, hc, hv⟩ := hx
    exact ⟨a, vs, rfl, hc.ext h, VSL.ext h cs vs hv⟩
  | .fp cs, x, hx => by
    simp only [VS] at hx ⊢
    obtain ⟨a, vs, rfl, hc, hv⟩ := hx
    exact ⟨a, vs, rfl, hc.ext h, VSL.ext h cs vs hv⟩
  | .agg cs, x, hx => by
    simp only [VS] at hx ⊢
    obtain ⟨vs, rfl, hv⟩ := hx
    exact ⟨vs, rfl, VSL.ext h cs vs hv⟩
  | .tup cs, x, hx => by
    simp only [VS] at hx ⊢
    obtain ⟨vs, rfl, hv⟩ := hx
    exact ⟨vs, rfl, VSL.ext h cs vs hv⟩
  | .iface t v, x, hx => by
    simp only [VS] at hx ⊢
    obtain ⟨y, rfl, hv⟩ := hx
    exact ⟨y, rfl, VS.ext h v y hv⟩
  | .fn f cs, x, hx => by
    simp only [VS] at hx ⊢
    obtain ⟨vs, rfl, hv⟩ := hx
    exact ⟨vs, rfl, VSL.ext h cs vs hv⟩
  | .top, x, _ => by simp [VS]
theorem VSL.ext {L L' : GH} {w w' : World} (h : Ext L w L' w') : ∀ (cs : List AV) (vs : List Value), VSL L w cs vs → VSL L' w' cs vs
  | [], [], _ => by simp [VSL]
  | c :: cs, v :: vs, hx => by
    simp only [VSL] at hx ⊢
    exact ⟨VS.ext h c v hx.1, VSL.ext h cs vs hx.2⟩
  | [], _ :: _, hx => by simp [VSL] at hx
  | _ :: _, [], hx => by simp [VSL] at hx
end

theorem VSL.length {L : GH} {w : World} : ∀ {cs : List AV} {vs : List Value}, VSL L w cs vs → cs.length = vs.length
  | [], [], _ => rfl
  | _ :: cs, _ :: vs, h => by simp only [VSL] at h; simp [VSL.length h.2]
  | [], _ :: _, h => by simp [VSL] at h
  | _ :: _, [], h => by simp [VSL] at h

theorem VSL.get {L : GH} {w : World} : ∀ {cs : List AV} {vs : List Value}, VSL L w cs vs → ∀ (i : Nat) (c : AV), cs[i]? = some c → ∃ v, vs[i]? = some v ∧ VS L w c v
  | [], [], _, i, c, h => by simp at h
  | a :: cs, v :: vs, h, 0, c, hi => by
    simp only [VSL] at h
    simp at hi
    subst hi
    exact ⟨v, rfl, h.1⟩
  | a :: cs, v :: vs, h, i + 1, c, hi => by
    simp only [VSL] at h
    simp at hi
    obtain ⟨u, hu, hv⟩ := VSL.get h.2 i c hi
    exact ⟨u, by simpa using hu, hv⟩
  | [], _ :: _, h, _, _, _ => by simp [VSL] at h
  | _ :: _, [], h, _, _, _ => by simp [VSL] at h

theorem VSL.append {L : GH} {w : World} : ∀ {cs ds : List AV} {vs us : List Value}, VSL L w cs vs → VSL L w ds us → VSL L w (cs ++ ds) (vs ++ us)
  | [], ds, [], us, _, h => by simpa using h
  | c :: cs, ds, v :: vs, us, h, k => by
    simp only [VSL] at h
    simp only [List.cons_append, VSL]
    exact ⟨h.1, VSL.append h.2 k⟩
  | [], _, _ :: _, _, h, _ => by simp [VSL] at h
  | _ :: _, _, [], _, h, _ => by simp [VSL] at h

theorem VSL.take {L : GH} {w : World} : ∀ {cs : List AV} {vs : List Value} (n : Nat), VSL L w cs vs → VSL L w (cs.take n) (vs.take n)
  | _, _, 0, _ => by simp [VSL]
  | [], [], n + 1, _ => by simp [VSL]
  | c :: cs, v :: vs, n + 1, h => by
    simp only [VSL] at h
    simp only [List.take_succ_cons, VSL]
    exact ⟨h.1, VSL.take n h.2⟩
  | [], _ :: _, _ + 1, h => by simp [VSL] at h
  | _ :: _, [], _ + 1, h => by simp [VSL] at h

theorem VSL.drop {L : GH} {w : World} : ∀ {cs : List AV} {vs : List Value} (n : Nat), VSL L w cs vs → VSL L w (cs.drop n) (vs.drop n)
  | cs, vs, 0, h => by simpa using h
  | [], [], n + 1, _ => by simp [VSL]
  | c :: cs, v :: vs, n + 1, h => by
    simp only [VSL] at h
    simp only [List.drop_succ_cons]
    exact VSL.drop n h.2
  | [], _ :: _, _ + 1, h => by simp [VSL] at h
  | _ :: _, [], _ + 1, h => by simp [VSL] at h

theorem VSL.set {L : GH} {w : World} : ∀ {cs : List AV} {vs : List Value} (i : Nat) (c : AV) (v : Value), VSL L w cs vs → VS L w c v → VSL L w (cs.set i c) (vs.set i v)
  | [], [], i, c, v, _, _ => by simp [VSL]
  | a :: cs, u :: vs, 0, c, v, h, k => by
    simp only [VSL] at h
    simp only [List.set_cons_zero, VSL]
    exact ⟨k, h.2⟩
  | a :: cs, u :: vs, i + 1, c, v, h, k => by
    simp only [VSL] at h
    simp only [List.set_cons_succ, VSL]
    exact ⟨h.1, VSL.set i c v h.2 k⟩
  | [], _ :: _, _, _, _, h, _ => by simp [VSL] at h
  | _ :: _, [], _, _, _, h, _ => by simp [VSL] at h

theorem RowR.ext {L L' : GH} {w w' : World} (h : Ext L w L' w') {g : Nat} {r : Row} (k : RowR L w g r) (hb : w'.heap[g]? = w.heap[g]?) : RowR L' w' g r := by
  obtain ⟨c, fr, vs, hc, ha, hf, hl, hv, hvs, h1⟩ := k
  exact ⟨c, fr, vs, hb.trans hc, ha, hf, hl, hv, VSL.ext h _ _ hvs, h1⟩

def GV.is : GV → Value → Prop
  | .val v, x => x = v
  | .int k, x => ∃ i, x = .int k i
  | .ifc, x => x = .nilIface ∨ ∃ u v, x = .iface u v
def GV.av : GV → AV
  | .val v => .p v
  | .int _ => .top
  | .ifc => .top
/-- The package-level variables hold what is told; they are not one's own. -/
def Glb (L : GH) (w : World) : Prop := ∀ g vs, (g, vs) ∈ glbT → L g = none ∧ g < w.heap.size ∧ (∀ i v, vs[i]? = some v → ∃ x, w.cell? ⟨g, i, none⟩ = some x ∧ v.is x ∧ x.oneCell' = true) ∧ ∃ c e fr, w.heap[g]? = some (.cells c e fr) ∧ c.size = vs.length
theorem Glb.ext {L L' : GH} {w w' : World} (h : Ext L w L' w') (k : Glb L w) : Glb L' w' := by
  intro g vs hg
  obtain ⟨h1, h2, h3, c, e, fr, h4, h5⟩ := k g vs hg
  refine ⟨h.dom _ h2 h1, Nat.lt_of_lt_of_le h2 h.size, fun i v hi => ?_, c, e, fr, by rw [h.keep _ h2 h1]; exact h4, h5⟩
  obtain ⟨x, hx, hv⟩ := h3 i v hi
  exact ⟨x, by rw [World.cell?_of_block (w := w) (h.keep _ h2 h1)]; exact hx, hv⟩
def gfind : List (Nat × List GV) → Nat → Option (List GV)
  | [], _ => none
  | (d, v) :: l, i => bif Nat.beq i d then some v else gfind l i
theorem gfind_mem : ∀ {l : List (Nat × List GV)} {g : Nat} {vs : List GV}, gfind l g = some vs → (g, vs) ∈ l
  | [], _, _, h => by cases h
  | (d, v) :: l, i, vs, h => by
    simp only [gfind] at h
    cases e : Nat.beq i d with
    | true =>
      rw [e] at h
      simp only [cond_true, Option.some.injEq] at h
      rw [Nat.eq_of_beq_eq_true e, h]
      exact List.mem_cons_self
    | false =>
      rw [e] at h
      exact List.mem_cons_of_mem _ (gfind_mem h)
theorem Glb.fp {L : GH} {w : World} (k : Glb L w) {g : Nat} {vs : List GV} (h : (g, vs) ∈ glbT) : VS L w (.fp (vs.map GV.av)) (.pointer (some ⟨g, 0, none⟩)) := by
  obtain ⟨h1, h2, h3, _⟩ := k g vs h
  have : ∀ (l : List GV) (o : Nat), (∀ i v, l[i]? = some v → ∃ x, w.cell? ⟨g, o + i, none⟩ = some x ∧ v.is x ∧ x.oneCell' = true) →
      ∃ xs : List Value, VSL L w (l.map GV.av) xs ∧ (∀ x ∈ xs, x.oneCell' = true) ∧ ∀ i x, xs[i]? = some x → w.cell? ⟨g, o + i, none⟩ = some x := by
    intro l
    induction l with
    | nil => intro o _; exact ⟨[], by simp [VSL], by simp, by simp⟩
    | cons v l ih =>
      intro o hl
      obtain ⟨x, hx, hv, h1⟩ := hl 0 v rfl
      obtain ⟨xs, k1, k2, k3⟩ := ih (o + 1) fun i v hi => by
        obtain ⟨x, hx⟩ := hl (i + 1) v (by simpa using hi)
        exact ⟨x, by rw [Nat.add_assoc, Nat.add_comm 1]; exact hx⟩
      refine ⟨x :: xs, ?_, ?_, ?_⟩
      · simp only [List.map_cons, VSL]
        refine ⟨?_, k1⟩
        cases v with
        | val u => simpa [GV.av, VS, GV.is] using hv
        | int k => simp [GV.av, VS]
        | ifc => simp [GV.av, VS]
      · intro y hy
        rcases List.mem_cons.1 hy with rfl | hy
        · exact h1
        · exact k2 y hy
      · intro i y hi
        match i with
        | 0 => simp only [List.getElem?_cons_zero, Option.some.injEq] at hi; subst hi; exact hx
        | i + 1 =>
          have := k3 i y (by simpa using hi)
          rw [Nat.add_assoc, Nat.add_comm 1] at this
          exact this
  obtain ⟨xs, k1, k2, k3⟩ := this vs 0 fun i v hi => by rw [Nat.zero_add]; exact h3 i v hi
  simp only [VS]
  refine ⟨_, xs, rfl, .inr ⟨_, rfl, h1, k2, fun i x hi => ?_⟩, k1⟩
  have := k3 i x hi
  rw [Nat.zero_add] at this
  have e : Addr.add ⟨g, 0, none⟩ i = ⟨g, i, none⟩ := by
    unfold Addr.add
    split
    · rename_i h; simp [h]
    · simp
  rw [e]
  exact this

/-- A frame's slots and a world are as told. -/
structure Sim (N : Nat) (t : TM) (L : GH) (a : Act) (w : World) : Prop where
  tm : ∀ i, VS L w (t i) (a.tmps.getD i undef)
  rows : ∀ g r, L g = some r → RowR L w g r
  size : a.tmps.size = N
  df : a.defers = [] ∧ Glb L w

theorem Sim.ext {N : Nat} {t : TM} {L L' : GH} {a : Act} {w w' : World} (s : Sim N t L a w) (h : Ext L w L' w') (hr : ∀ g r, L' g = some r → RowR L' w' g r) : Sim N t L' a w' :=
  ⟨fun i => VS.ext h _ _ (s.tm i), hr, s.size, s.df.1, s.df.2.ext h⟩

def TM.put (t : TM) (d : Nat) (v : AV) : TM := fun i => if i = d then v else t i
theorem TM.put_same (t : TM) (d : Nat) (v : AV) : t.put d v d = v := by simp [TM.put]
theorem TM.put_ne (t : TM) (d : Nat) (v : AV) (i : Nat) (h : i ≠ d) : t.put d v i = t i := by simp [TM.put, h]
def TM.putO (t : TM) : Option Nat → AV → TM
  | some d, v => t.put d v
  | none, _ => t

theorem Sim.put {N : Nat} {t : TM} {L : GH} {a : Act} {w : World} (s : Sim N t L a w) (d : Nat) (hd : d < N) {v : AV} {x : Value} (hv : VS L w v x) : Sim N (t.put d v) L (a.put (some d) x) w := by
  refine ⟨fun i => ?_, s.rows, by simp [Act.put, s.size], s.df⟩
  unfold TM.put Act.put
  by_cases h : i = d
  · subst h
    have hs : i < a.tmps.size := by rw [s.size]; exact hd
    simpa [Array.getD_eq_getD_getElem?, hs] using hv
  · have := s.tm i
    rw [if_neg h]
    simpa [Array.getD_eq_getD_getElem?, Array.getElem?_setIfInBounds, Ne.symm h] using this

/-- What code leaves behind, against a world from which one began. -/
def LQ (N : Nat) (L0 : GH) (w0 : World) (Q : Exit → TM → GH → Prop) (e : Exit) (a : Act) (w : World) : Prop :=
  ∃ t L, Sim N t L a w ∧ Ext L0 w0 L w ∧ Q e t L

/-- A piece of code. -/
def J (P : Program) (N : Nat) (c : Code) (Q : Exit → TM → GH → Prop) (t : TM) (L : GH) : Prop :=
  ∀ L0 w0 a w, Ext L0 w0 L w → Sim N t L a w → c.wp P (LQ N L0 w0 Q) a w

/-- What is left of a region's operations. -/
def JO (P : Program) (N : Nat) (ops : Array Oper) (Q : Exit → TM → GH → Prop) (os : List Oper) (t : TM) (L : GH) : Prop :=
  ∀ L0 w0 a w, Ext L0 w0 L w → Sim N t L a w → wpList P ops (LQ N L0 w0 Q) os a w

theorem J.mono {P : Program} {N : Nat} {c : Code} {Q Q' : Exit → TM → GH → Prop} {t : TM} {L : GH} (h : J P N c Q t L) (hq : ∀ e t L, Q e t L → Q' e t L) : J P N c Q' t L :=
  fun L0 w0 a w he hs => wp_mono (h L0 w0 a w he hs) fun e a w ⟨t, L, s, x, q⟩ => ⟨t, L, s, x, hq _ _ _ q⟩

/-- What is told may be told less. -/
theorem J.drop {P : Program} {N : Nat} {c : Code} {Q : Exit → TM → GH → Prop} {t : TM} {L : GH} (L' : GH) (hl : ∀ g r, L' g = some r → L g = some r) (h : J P N c Q t L') : J P N c Q t L := by
  intro L0 w0 a w he hs
  have hd : ∀ b, L b = none → L' b = none := fun b hb => by
    cases h' : L' b with
    | none => rfl
    | some r => rw [hl b r h'] at hb; cases hb
  have hx := Ext.drop w hd
  exact h L0 w0 a w (he.trans hx) (hs.ext hx fun g r hr => (hs.rows g r (hl g r hr)).ext hx rfl)

/-- A slot's value told in other words. -/
theorem J.tell {P : Program} {N : Nat} {c : Code} {Q : Exit → TM → GH → Prop} {t : TM} {L : GH} (t' : TM)
    (hv : ∀ w, (∀ g r, L g = some r → RowR L w g r) → ∀ i x, VS L w (t i) x → VS L w (t' i) x) (h : J P N c Q t' L) : J P N c Q t L :=
  fun L0 w0 a w he hs => h L0 w0 a w he ⟨fun i => hv w hs.rows i _ (hs.tm i), hs.rows, hs.size, hs.df⟩

def thn (K : TM → GH → Prop) (Q : Exit → TM → GH → Prop) : Exit → TM → GH → Prop
  | .normal, t, L => K t L
  | e, t, L => Q e t L

theorem J.seq {P : Program} {N : Nat} {x y : Code} {Q : Exit → TM → GH → Prop} {t : TM} {L : GH} (h : J P N x (thn (J P N y Q) Q) t L) : J P N (.seq x y) Q t L := by
  intro L0 w0 a w he hs
  refine wp_seq (wp_mono (h L0 w0 a w he hs) ?_)
  rintro e a' w' ⟨t', L', s, x, q⟩
  cases e with
  | normal => exact q L0 w0 a' w' x s
  | exit id => exact ⟨t', L', s, x, q⟩
  | goto l => exact ⟨t', L', s, x, q⟩
  | ret => exact ⟨t', L', s, x, q⟩
  | panic ch => exact ⟨t', L', s, x, q⟩
  | outgrown => exact ⟨t', L', s, x, q⟩

theorem J.skip {P : Program} {N : Nat} {Q : Exit → TM → GH → Prop} {t : TM} {L : GH} (h : Q .normal t L) : J P N .skip Q t L :=
  fun L0 w0 a w he hs => wp_skip ⟨t, L, hs, he, h⟩
theorem J.exit {P : Program} {N : Nat} {id : Nat} {Q : Exit → TM → GH → Prop} {t : TM} {L : GH} (h : Q (.exit id) t L) : J P N (.exit id) Q t L :=
  fun L0 w0 a w he hs => wp_exit ⟨t, L, hs, he, h⟩
theorem J.ret {P : Program} {N : Nat} {Q : Exit → TM → GH → Prop} {t : TM} {L : GH} (h : Q .ret t L) : J P N .ret Q t L :=
  fun L0 w0 a w he hs => wp_ret ⟨t, L, hs, he, h⟩

def inb (id : Nat) (Q : Exit → TM → GH → Prop) : Exit → TM → GH → Prop
  | .exit j, t, L => if j = id then Q .normal t L else Q (.exit j) t L
  | e, t, L => Q e t L

theorem J.block {P : Program} {N : Nat} {id : Nat} {c : Code} {Q : Exit → TM → GH → Prop} {t : TM} {L : GH} (h : J P N c (inb id Q) t L) : J P N (.block id c) Q t L := by
  intro L0 w0 a w he hs
  refine wp_block (wp_mono (h L0 w0 a w he hs) ?_)
  rintro e a' w' ⟨t', L', s, x, q⟩
  cases e with
  | exit j =>
    simp only [inb] at q
    simp only [Exit.inBlock]
    split
    · rename_i hj
      rw [if_pos hj] at q
      exact ⟨t', L', s, x, q⟩
    · rename_i hj
      rw [if_neg hj] at q
      exact ⟨t', L', s, x, q⟩
  | normal => exact ⟨t', L', s, x, q⟩
  | goto l => exact ⟨t', L', s, x, q⟩
  | ret => exact ⟨t', L', s, x, q⟩
  | panic ch => exact ⟨t', L', s, x, q⟩
  | outgrown => exact ⟨t', L', s, x, q⟩

/-- An operand as it is known. -/
def ev (t : TM) : Operand → AV
  | .tmp n => t n
  | .const v => .p v
  | .global g => match gfind glbT g with
    | some vs => .fp (vs.map GV.av)
    | none => .top
  | .func f => .p (.func (.func f) #[] #[])

theorem Sim.ev {N : Nat} {t : TM} {L : GH} {a : Act} {w : World} (s : Sim N t L a w) (o : Operand) : VS L w (ev t o) (a.eval o) := by
  cases o with
  | tmp n => exact s.tm n
  | const v => simp [YtljgkjkdmoejfaaAv.ev, VS, Act.eval]
  | global g =>
    show VS L w (match gfind glbT g with | some vs => .fp (vs.map GV.av) | none => .top) _
    cases h : gfind glbT g with
    | some vs => exact s.df.2.fp (gfind_mem h)
    | none => simp [VS]
  | func f => simp [YtljgkjkdmoejfaaAv.ev, VS, Act.eval]

theorem J.cond {P : Program} {N : Nat} {o : Operand} {b : Bool} {x y : Code} {Q : Exit → TM → GH → Prop} {t : TM} {L : GH} (ho : ev t o = .p (.bool b))
    (h1 : b = true → J P N x Q t L) (h2 : b = false → J P N y Q t L) : J P N (.cond o x y) Q t L := by
  intro L0 w0 a w he hs
  have hv := hs.ev o
  rw [ho] at hv
  simp only [VS] at hv
  cases b with
  | true => exact wp_cond_true hv (h1 rfl L0 w0 a w he hs)
  | false => exact wp_cond_false hv (h2 rfl L0 w0 a w he hs)

/-- A loop, with a number that each round lowers. -/
theorem J.loop {P : Program} {N : Nat} {c : Code} {Q : Exit → TM → GH → Prop} {t : TM} {L : GH} (I : Nat → TM → GH → Prop) (n : Nat) (h0 : I n t L)
    (round : ∀ n t L, I n t L → J P N c (thn (fun t' L' => ∃ n', n' < n ∧ I n' t' L') Q) t L) : J P N (.loop c) Q t L := by
  intro L0 w0 a w he hs
  refine wp_loop_ghost (fun n a w => ∃ t L, Sim N t L a w ∧ Ext L0 w0 L w ∧ I n t L) n ⟨t, L, hs, he, h0⟩ ?_
  rintro n a w ⟨t, L, s, x, hI⟩
  refine wp_mono (round n t L hI L0 w0 a w x s) ?_
  rintro e a' w' ⟨t', L', s', x', q⟩
  cases e with
  | normal =>
    obtain ⟨n', hlt, q⟩ := q
    exact ⟨n', hlt, t', L', s', x', q⟩
  | exit id => exact ⟨t', L', s', x', q⟩
  | goto l => exact ⟨t', L', s', x', q⟩
  | ret => exact ⟨t', L', s', x', q⟩
  | panic ch => exact ⟨t', L', s', x', q⟩
  | outgrown => exact ⟨t', L', s', x', q⟩

theorem J.region {P : Program} {N : Nat} {id : Nat} {l : List Oper} {Q : Exit → TM → GH → Prop} {t : TM} {L : GH} (h : JO P N l.toArray Q l t L) : J P N (.region id l.toArray false) Q t L :=
  fun L0 w0 a w he hs => wp_region_lit (h L0 w0 a w he hs)

theorem JO.nil {P : Program} {N : Nat} {ops : Array Oper} {Q : Exit → TM → GH → Prop} {t : TM} {L : GH} (h : Q .normal t L) : JO P N ops Q [] t L :=
  fun L0 w0 a w he hs => wpList_nil ⟨t, L, hs, he, h⟩

/-- One operation, whatever the world: a value, and what is told next. `dst`: where it goes. -/
theorem JO.op {P : Program} {N : Nat} {ops : Array Oper} {Q : Exit → TM → GH → Prop} {o : Oper} {os : List Oper} {t : TM} {L : GH} (hg : o.guard = none) (t' : AV → TM)
    (h : ∀ L0 w0 a w, Ext L0 w0 L w → Sim N t L a w → o.wp P a w (fun a' w' => wpList P ops (LQ N L0 w0 Q) os a' w') (LQ N L0 w0 Q)) : JO P N ops Q (o :: os) t L := by
  intro L0 w0 a w he hs
  refine wpList_plain hg fun K hK => ?_
  have := h L0 w0 a w he hs
  unfold Oper.wp at this ⊢
  revert this
  cases hr : (execOp a.eval o).run P w with
  | ok x w' =>
    cases x <;> simp only [Oper.upon] <;> first
      | exact fun h => hK _ _ h
      | (intro h; exact h.mono fun e w'' => by cases e <;> first | exact fun h => hK _ _ h | exact fun h => h)
      | exact fun h => h.mono fun v w'' h => hK _ _ h
      | exact fun h => h
  | halt x w' => cases x <;> simp only [Oper.upon] <;> exact fun h => h

/-- What an operation's run gives, in all frames and worlds that are as told, is all that is asked: a value. -/
theorem JO.value {P : Program} {N : Nat} {ops : Array Oper} {Q : Exit → TM → GH → Prop} {d : Option Nat} {op : Op} {ty : TypeId} {pos : String} {af : Array Edge} {os : List Oper} {t : TM} {L : GH}
    (hd : ∀ i, d = some i → i < N)
    (h : ∀ a w, Sim N t L a w → ∃ x w' v L', (execOp a.eval ⟨d, op, ty, pos, af, none⟩).run P w = .ok (.value x) w' ∧ Ext L w L' w' ∧ (∀ g r, L' g = some r → RowR L' w' g r) ∧ VS L' w' v x ∧
      JO P N ops Q os (t.putO d v) L') : JO P N ops Q (⟨d, op, ty, pos, af, none⟩ :: os) t L := by
  refine JO.op rfl (fun _ => t) fun L0 w0 a w he hs => ?_
  obtain ⟨x, w', v, L', hr, hx, hrows, hv, hj⟩ := h a w hs
  unfold Oper.wp
  rw [hr]
  simp only [Oper.upon_value]
  refine hj L0 w0 _ w' (he.trans hx) ?_
  have s' := hs.ext hx hrows
  cases d with
  | none => exact s'
  | some i => exact s'.put i (hd i rfl) hv

/-- A guard that says no. -/
theorem JO.off {P : Program} {N : Nat} {ops : Array Oper} {Q : Exit → TM → GH → Prop} {d j s : Nat} {b c : Bool} {op : Op} {ty : TypeId} {pos : String} {af : Array Edge} {os : List Oper} {t : TM} {L : GH}
    (hd : d < N) (hs : s < N) (hj : (ops[j]?).bind (·.dst) = some s) (ht : t s = .p (.bool c)) (hc : (c == b) = false)
    (h : JO P N ops Q os (t.put d (.p undef)) L) : JO P N ops Q (⟨some d, op, ty, pos, af, some (j, b)⟩ :: os) t L := by
  intro L0 w0 a w he sm
  have hv := sm.tm s
  rw [ht] at hv
  simp only [VS] at hv
  have hw : Region.wanted ⟨some d, op, ty, pos, af, some (j, b)⟩ (yielded ops a.tmps) = false := by
    have hsz : s < a.tmps.size := by rw [sm.size]; exact hs
    have h2 : a.tmps[s]? = some (.bool c) := by
      rw [Array.getD_eq_getD_getElem?, Array.getElem?_eq_getElem hsz] at hv
      rw [Array.getElem?_eq_getElem hsz]
      simpa using hv
    simp only [Region.wanted, yielded, hj, Option.bind_some, h2]
    cases b <;> cases c <;> simp_all
  unfold wpList
  rw [if_neg (by rw [hw]; simp)]
  exact h L0 w0 _ w he (sm.put d hd (by simp [VS]))

/-- A guard that was not asked itself. -/
theorem JO.offU {P : Program} {N : Nat} {ops : Array Oper} {Q : Exit → TM → GH → Prop} {d j s : Nat} {b : Bool} {op : Op} {ty : TypeId} {pos : String} {af : Array Edge} {os : List Oper} {t : TM} {L : GH}
    (hd : d < N) (hs : s < N) (hj : (ops[j]?).bind (·.dst) = some s) (ht : t s = .p undef)
    (h : JO P N ops Q os (t.put d (.p undef)) L) : JO P N ops Q (⟨some d, op, ty, pos, af, some (j, b)⟩ :: os) t L := by
  intro L0 w0 a w he sm
  have hv := sm.tm s
  rw [ht] at hv
  simp only [VS] at hv
  have hw : Region.wanted ⟨some d, op, ty, pos, af, some (j, b)⟩ (yielded ops a.tmps) = false := by
    have hsz : s < a.tmps.size := by rw [sm.size]; exact hs
    have h2 : a.tmps[s]? = some undef := by
      rw [Array.getD_eq_getD_getElem?, Array.getElem?_eq_getElem hsz] at hv
      rw [Array.getElem?_eq_getElem hsz]
      simpa using hv
    simp only [Region.wanted, yielded, hj, Option.bind_some, h2, undef]
    rfl
  unfold wpList
  rw [if_neg (by rw [hw]; simp)]
  exact h L0 w0 _ w he (sm.put d hd (by simp [VS]))

/-- A guard that says yes. -/
theorem JO.on {P : Program} {N : Nat} {ops : Array Oper} {Q : Exit → TM → GH → Prop} {d : Option Nat} {j s : Nat} {b c : Bool} {op : Op} {ty : TypeId} {pos : String} {af : Array Edge} {os : List Oper} {t : TM} {L : GH}
    (hs : s < N) (hj : (ops[j]?).bind (·.dst) = some s) (ht : t s = .p (.bool c)) (hc : (c == b) = true)
    (h : JO P N ops Q (⟨d, op, ty, pos, af, none⟩ :: os) t L) : JO P N ops Q (⟨d, op, ty, pos, af, some (j, b)⟩ :: os) t L := by
  intro L0 w0 a w he sm
  have hv := sm.tm s
  rw [ht] at hv
  simp only [VS] at hv
  have hw : Region.wanted ⟨d, op, ty, pos, af, some (j, b)⟩ (yielded ops a.tmps) = true := by
    have hsz : s < a.tmps.size := by rw [sm.size]; exact hs
    have h2 : a.tmps[s]? = some (.bool c) := by
      rw [Array.getD_eq_getD_getElem?, Array.getElem?_eq_getElem hsz] at hv
      rw [Array.getElem?_eq_getElem hsz]
      simpa using hv
    simp only [Region.wanted, yielded, hj, Option.bind_some, h2]
    cases b <;> cases c <;> simp_all
  have := h L0 w0 a w he sm
  unfold wpList at this ⊢
  rw [if_pos hw]
  rw [if_pos (by simp [Region.wanted])] at this
  exact this

end Go.Proofs.YtljgkjkdmoejfaaAv
