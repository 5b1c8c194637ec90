/- Own texts, put together. -/
import Derived.WalkKit
import Derived.Deep.LoopGhost
import Derived.Laws.OwnMore
import Derived.Laws.CopyRow
import Derived.Lib.ConvBytes
import Derived.Below
import Derived.KernelRfl
import Derived.Scope
import Derived.Laws.BytesString
import Derived.DataElems
import Derived.Laws.Tables
import Derived.Laws.Cells
import Derived.OrdersIn
import Derived.Laws.StructEq
import Derived.Laws.RangeString
import Derived.Maps.RangeRun
set_option linter.unusedVariables false
set_option linter.unusedSimpArgs false
set_option maxRecDepth 100000
namespace Go.Proofs.YtaglpckihegmoaaDoorAv
open Go Go.RowKit
inductive GV where
 | val (v : Value)
 | int (k : IntKind)
 | ifc
def glbT : List (Nat × List GV) := [
 (1, [.val (.int .u8 240), .val (.int .u8 240), .val (.int .u8 240), .val (.int .u8 240), .val (.int .u8 240), .val (.int .u8 240), .val (.int .u8 240), .val (.int .u8 240), .val (.int .u8 240), .val (.int .u8 240), .val (.int .u8 240), .val (.int .u8 240), .val (.int .u8 240), .val (.int .u8 240), .val (.int .u8 240), .val (.int .u8 240), .val (.int .u8 240), .val (.int .u8 240), .val (.int .u8 240), .val (.int .u8 240), .val (.int .u8 240), .val (.int .u8 240), .val (.int .u8 240), .val (.int .u8 240), .val (.int .u8 240), .val (.int .u8 240), .val (.int .u8 240), .val (.int .u8 240), .val (.int .u8 240), .val (.int .u8 240), .val (.int .u8 240), .val (.int .u8 240), .val (.int .u8 240), .val (.int .u8 240), .val (.int .u8 240), .val (.int .u8 240), .val (.int .u8 240), .val (.int .u8 240), .val (.int .u8 240), .val (.int .u8 240), .val (.int .u8 240), .val (.int .u8 240), .val (.int .u8 240), .val (.int .u8 240), .val (.int .u8 240), .val (.int .u8 240), .val (.int .u8 240), .val (.int .u8 240), .val (.int .u8 240), .val (.int .u8 240), .val (.int .u8 240), .val (.int .u8 240), .val (.int .u8 240), .val (.int .u8 240), .val (.int .u8 240), .val (.int .u8 240), .val (.int .u8 240), .val (.int .u8 240), .val (.int .u8 240), .val (.int .u8 240), .val (.int .u8 240), .val (.int .u8 240), .val (.int .u8 240), .val (.int .u8 240), .val (.int .u8 240), .val (.int .u8 240), .val (.int .u8 240), .val (.int .u8 240), .val (.int .u8 240), .val (.int .u8 240), .val (.int .u8 240), .val (.int .u8 240), .val (.int .u8 240), .val (.int .u8 240), .val (.int .u8 240), .val (.int .u8 240), .val (.int .u8 240), .val (.int .u8 240), .val (.int .u8 240), .val (.int .u8 240), .val (.int .u8 240), .val (.int .u8 240), .val (.int .u8 240), .val (.int .u8 240), .val (.int .u8 240), .val (.int .u8 240), .val (.int .u8 240), .val (.int .u8 240), .val (.int .u8 240), .val (.int .u8 240), .val (.int .u8 240), .val (.int .u8 240), .val (.int .u8 240), .val (.int .u8 240), .val (.int .u8 240), .val (.int .u8 240), .val (.int .u8 240), .val (.int .u8 240), .val (.int .u8 240), .val (.int .u8 240), .val (.int .u8 240), .val (.int .u8 240), .val (.int .u8 240), .val (.int .u8 240), .val (.int .u8 240), .val (.int .u8 240), .val (.int .u8 240), .val (.int .u8 240), .val (.int .u8 240), .val (.int .u8 240), .val (.int .u8 240), .val (.int .u8 240), .val (.int .u8 240), .val (.int .u8 240), .val (.int .u8 240), .val (.int .u8 240), .val (.int .u8 240), .val (.int .u8 240), .val (.int .u8 240), .val (.int .u8 240), .val (.int .u8 240), .val (.int .u8 240), .val (.int .u8 240), .val (.int .u8 240), .val (.int .u8 240), .val (.int .u8 240), .val (.int .u8 240), .val (.int .u8 240), .val (.int .u8 241), .val (.int .u8 241), .val (.int .u8 241), .val (.int .u8 241), .val (.int .u8 241), .val (.int .u8 241), .val (.int .u8 241), .val (.int .u8 241), .val (.int .u8 241), .val (.int .u8 241), .val (.int .u8 241), .val (.int .u8 241), .val (.int .u8 241), .val (.int .u8 241), .val (.int .u8 241), .val (.int .u8 241), .val (.int .u8 241), .val (.int .u8 241), .val (.int .u8 241), .val (.int .u8 241), .val (.int .u8 241), .val (.int .u8 241), .val (.int .u8 241), .val (.int .u8 241), .val (.int .u8 241), .val (.int .u8 241), .val (.int .u8 241), .val (.int .u8 241), .val (.int .u8 241), .val (.int .u8 241), .val (.int .u8 241), .val (.int .u8 241), .val (.int .u8 241), .val (.int .u8 241), .val (.int .u8 241), .val (.int .u8 241), .val (.int .u8 241), .val (.int .u8 241), .val (.int .u8 241), .val (.int .u8 241), .val (.int .u8 241), .val (.int .u8 241), .val (.int .u8 241), .val (.int .u8 241), .val (.int .u8 241), .val (.int .u8 241), .val (.int .u8 241), .val (.int .u8 241), .val (.int .u8 241), .val (.int .u8 241), .val (.int .u8 241), .val (.int .u8 241), .val (.int .u8 241), .val (.int .u8 241), .val (.int .u8 241), .val (.int .u8 241), .val (.int .u8 241), .val (.int .u8 241), .val (.int .u8 241), .val (.int .u8 241), .val (.int .u8 241), .val (.int .u8 241), .val (.int .u8 241), .val (.int .u8 241), .val (.int .u8 241), .val (.int .u8 241), .val (.int .u8 2), .val (.int .u8 2), .val (.int .u8 2), .val (.int .u8 2), .val (.int .u8 2), .val (.int .u8 2), .val (.int .u8 2), .val (.int .u8 2), .val (.int .u8 2), .val (.int .u8 2), .val (.int .u8 2), .val (.int .u8 2), .val (.int .u8 2), .val (.int .u8 2), .val (.int .u8 2), .val (.int .u8 2), .val (.int .u8 2), .val (.int .u8 2), .val (.int .u8 2), .val (.int .u8 2), .val (.int .u8 2), .val (.int .u8 2), .val (.int .u8 2), .val (.int .u8 2), .val (.int .u8 2), .val (.int .u8 2), .val (.int .u8 2), .val (.int .u8 2), .val (.int .u8 2), .val (.int .u8 2), .val (.int .u8 19), .val (.int .u8 3), .val (.int .u8 3), .val (.int .u8 3), .val (.int .u8 3), .val (.int .u8 3), .val (.int .u8 3), .val (.int .u8 3), .val (.int .u8 3), .val (.int .u8 3), .val (.int .u8 3), .val (.int .u8 3), .val (.int .u8 3), .val (.int .u8 35), .val (.int .u8 3), .val (.int .u8 3), .val (.int .u8 52), .val (.int .u8 4), .val (.int .u8 4), .val (.int .u8 4), .val (.int .u8 68), .val (.int .u8 241), .val (.int .u8 241), .val (.int .u8 241), .val (.int .u8 241), .val (.int .u8 241), .val (.int .u8 241), .val (.int .u8 241), .val (.int .u8 241), .val (.int .u8 241), .val (.int .u8 241), .val (.int .u8 241)]),
 (2, [.val (.int .u8 128), .val (.int .u8 191), .val (.int .u8 160), .val (.int .u8 191), .val (.int .u8 128), .val (.int .u8 159), .val (.int .u8 144), .val (.int .u8 191), .val (.int .u8 128), .val (.int .u8 143), .val (.int .u8 0), .val (.int .u8 0), .val (.int .u8 0), .val (.int .u8 0), .val (.int .u8 0), .val (.int .u8 0), .val (.int .u8 0), .val (.int .u8 0), .val (.int .u8 0), .val (.int .u8 0), .val (.int .u8 0), .val (.int .u8 0), .val (.int .u8 0), .val (.int .u8 0), .val (.int .u8 0), .val (.int .u8 0), .val (.int .u8 0), .val (.int .u8 0), .val (.int .u8 0), .val (.int .u8 0), .val (.int .u8 0), .val (.int .u8 0)]),
 (0, [.int .i64])]
end Go.Proofs.YtaglpckihegmoaaDoorAv
namespace Go.Proofs.YtaglpckihegmoaaDoorAv
open Go Go.RowKit
inductive AV where
 | p (v : Value)
 | sl (g sz off n : Nat)
 | ptr (g off : Nat)
 | fz (n : Nat) (cs : List AV)
 | fzc (n : Nat) (cs : List AV)
 | fp (cs : List AV)
 | agg (cs : List AV)
 | tup (cs : List AV)
 | iface (t : TypeId) (v : AV)
 | fn (f : Fn) (cs : List AV)
 | top
 deriving Inhabited
inductive MK where
 | s (c : ByteArray)
 | b (x : Bool)
def MK.val : MK → Value
 | .s c => .string c
 | .b x => .bool x
def MK.ty : MK → TypeDesc → Bool
 | .s _, .string => true
 | .b _, .bool => true
 | _, _ => false
def keqB : MK → MK → Bool
 | .s a, .s c => decide (a = c)
 | .b x, .b y => x == y
 | _, _ => false
inductive Ap where
 | b (x : Bool)
 | it (s : ByteArray) (p : Nat)
 | mp (l : List (MK × Value))
 | mit (m : Nat) (l : List (MK × Value)) (k : Nat) (c : Option (MK × Value))
 | ob (o : Obj)
def Births (es : Array MapEntry) (clock : Nat) : Prop := (∀ b ∈ es.toList.map (·.born), b < clock) ∧ (es.toList.map (·.born)).Nodup
instance : Coe Bool Ap := ⟨.b⟩
structure Row where
 e : TypeId
 ap : Ap
 cs : List AV
def Row.isc (r : Row) : Prop := match r.ap with
 | .b _ => True
 | .it _ _ => False
 | .mp _ => False
 | .mit .. => False
 | .ob _ => False
abbrev GH := Nat → Option Row
abbrev TM := Nat → AV
def CellsAt (L : GH) (w : World) (a : Option Addr) (vs : List Value) : Prop :=
 vs = [] ∨ ∃ ad, a = some ad ∧ L ad.block = none ∧ (∀ v ∈ vs, v.oneCell' = true) ∧ ∀ i v, vs[i]? = some v → w.cell? (ad.add i) = some v
mutual
def VS (L : GH) (w : World) : AV → Value → Prop
 | .p v, x => x = v
 | .sl g sz off n, x => ∃ a cap, x = .slice a n cap ∧ n ≤ cap ∧ (cap = 0 ∨ (a = some ⟨g, off, none⟩ ∧ ∃ c e fr, w.heap[g]? = some (.cells c e fr) ∧ off + cap * sz ≤ c.size))
 | .ptr g off, x => x = .pointer (some ⟨g, off, none⟩)
 | .fz n cs, x => ∃ a cap vs, x = .slice a n cap ∧ n ≤ cap ∧ CellsAt L w a vs ∧ VSL L w cs vs
 | .fzc n cs, x => ∃ a vs, x = .slice a n n ∧ CellsAt L w a vs ∧ VSL L w cs vs
 | .fp cs, x => ∃ a vs, x = .pointer (some a) ∧ CellsAt L w (some a) vs ∧ VSL L w cs vs
 | .agg cs, x => ∃ vs : List Value, x = .agg vs.toArray ∧ VSL L w cs vs
 | .tup cs, x => ∃ vs : List Value, x = .tuple vs.toArray ∧ VSL L w cs vs
 | .iface t v, x => ∃ y, x = .iface t y ∧ VS L w v y
 | .fn f cs, x => ∃ vs : List Value, x = .func f #[] vs.toArray ∧ VSL L w cs vs
 | .top, _ => True
def VSL (L : GH) (w : World) : List AV → List Value → Prop
 | [], [] => True
 | c :: cs, v :: vs => VS L w c v ∧ VSL L w cs vs
 | [], _ :: _ => False
 | _ :: _, [] => False
end
def RowC (L : GH) (w : World) (g : Nat) (r : Row) : Prop :=
 ∃ c fr vs, w.heap[g]? = some (.cells c r.e fr) ∧ (r.ap = true → fr = (0, 0)) ∧ (∀ o, o < c.size → ¬ (fr.1 ≤ o ∧ o < fr.2)) ∧
  r.cs.length ≤ c.size ∧ vs = c.toList.take r.cs.length ∧ VSL L w r.cs vs ∧ ∀ v ∈ vs, v.oneCell' = true
def RowR (L : GH) (w : World) (g : Nat) (r : Row) : Prop := match r.ap with
 | .b _ => RowC L w g r
 | .it s p => r.cs = [] ∧ w.heap[g]? = some (.stringIter s p)
 | .mp l => r.cs = [] ∧ ∃ es clock, w.heap[g]? = some (.map es clock) ∧ es.toList.map (fun e => (e.key, e.val)) = (l.map fun p => (p.1.val, p.2)) ∧ Births es clock
 | .mit m l k c => r.cs = [] ∧ L m = none ∧ ∃ (es : Array MapEntry) (clock : Nat) (seen : Array Nat), w.heap[g]? = some (.mapIter (some m) clock seen clock) ∧ w.heap[m]? = some (.map es clock) ∧ es.toList.map (fun e => (e.key, e.val)) = (l.map fun p => (p.1.val, p.2)) ∧ Births es clock ∧
   (es.filter fun e => !seen.contains e.born).size + k ≤ l.length ∧ ∀ p, c = some p → ∃ (s0 : Array Nat) (e : MapEntry), seen = s0.push e.born ∧ e ∈ es.toList ∧ e.key = p.1.val ∧ e.val = p.2
 | .ob o => r.cs = [] ∧ w.heap[g]? = some o
theorem RowR.c {L : GH} {w : World} {g : Nat} {r : Row} (h : RowR L w g r) (hb : r.isc) : RowC L w g r := by
 unfold RowR at h
 unfold Row.isc at hb
 split at h
 ·exact h
 ·rename_i e; rw [e] at hb; exact hb.elim
 ·rename_i e; rw [e] at hb; exact hb.elim
 ·rename_i e; rw [e] at hb; exact hb.elim
 ·rename_i e; rw [e] at hb; exact hb.elim
theorem RowC.r {L : GH} {w : World} {g : Nat} {r : Row} (h : RowC L w g r) (hb : r.isc) : RowR L w g r := by
 unfold RowR
 unfold Row.isc at hb
 split
 ·exact h
 ·rename_i e; rw [e] at hb; exact hb.elim
 ·rename_i e; rw [e] at hb; exact hb.elim
 ·rename_i e; rw [e] at hb; exact hb.elim
 ·rename_i e; rw [e] at hb; exact hb.elim
theorem RowR.cs {L : GH} {w : World} {g : Nat} {r : Row} (h : RowR L w g r) : RowC L w g r ∨ r.cs = [] := by
 unfold RowR at h
 split at h
 ·exact .inl h
 ·exact .inr h.1
 ·exact .inr h.1
 ·exact .inr h.1
 ·exact .inr h.1
theorem RowR.ci {L : GH} {w : World} {g : Nat} {r : Row} (h : RowR L w g r) {off : Nat} {v : AV} (hc : r.cs[off]? = some v) : r.isc := by
 unfold RowR at h
 unfold Row.isc
 split at h
 ·trivial
 ·rw [h.1] at hc; simp at hc
 ·rw [h.1] at hc; simp at hc
 ·rw [h.1] at hc; simp at hc
 ·rw [h.1] at hc; simp at hc
theorem RowR.cg {L : GH} {w : World} {g : Nat} {r : Row} (h : RowR L w g r) {off : Nat} {v : AV} (hc : r.cs[off]? = some v) : RowC L w g r := by
 rcases h.cs with h | h
 ·exact h
 ·rw [h] at hc; simp at hc
structure Ext (L : GH) (w : World) (L' : GH) (w' : World) : Prop where
 os : w'.os = w.os
 tape : w'.tape = w.tape
 output : w'.output = w.output
 size : w.heap.size ≤ w'.heap.size
 keep : ∀ b, b < w.heap.size → L b = none → w'.heap[b]? = w.heap[b]?
 dom : ∀ b, b < w.heap.size → L b = none → L' b = none
 shape : ∀ (b : Nat) (c : Array Value) (e : TypeId) (fr : Nat × Nat), w.heap[b]? = some (Obj.cells c e fr) → ∃ (c' : Array Value) (e' : TypeId) (fr' : Nat × Nat), w'.heap[b]? = some (Obj.cells c' e' fr') ∧ c'.size = c.size
theorem Ext.refl (L : GH) (w : World) : Ext L w L w := ⟨rfl, rfl, rfl, Nat.le_refl _, fun _ _ _ => rfl, fun _ _ h => h, fun _ c e fr h => ⟨c, e, fr, h, rfl⟩⟩
theorem Ext.trans {L L1 L2 : GH} {w w1 w2 : World} (h : Ext L w L1 w1) (k : Ext L1 w1 L2 w2) : Ext L w L2 w2 :=
 ⟨k.os.trans h.os, k.tape.trans h.tape, k.output.trans h.output, Nat.le_trans h.size k.size,
  fun b hb hl => (k.keep b (Nat.lt_of_lt_of_le hb h.size) (h.dom b hb hl)).trans (h.keep b hb hl),
  fun b hb hl => k.dom b (Nat.lt_of_lt_of_le hb h.size) (h.dom b hb hl),
  fun b c e fr hc => by
   obtain ⟨c1, e1, fr1, h1, s1⟩ := h.shape b c e fr hc
   obtain ⟨c2, e2, fr2, h2, s2⟩ := k.shape b c1 e1 fr1 h1
   exact ⟨c2, e2, fr2, h2, s2.trans s1⟩⟩
theorem Ext.drop {L L' : GH} (w : World) (h : ∀ b, L b = none → L' b = none) : Ext L w L' w :=
 ⟨rfl, rfl, rfl, Nat.le_refl _, fun _ _ _ => rfl, fun b _ hb => h b hb, fun _ c e fr h => ⟨c, e, fr, h, rfl⟩⟩
theorem Ext.drew (L : GH) (w : World) : Ext L w L w.drew := ⟨rfl, rfl, rfl, Nat.le_refl _, fun _ _ _ => rfl, fun _ _ h => h, fun _ c e fr h => ⟨c, e, fr, h, rfl⟩⟩
theorem CellsAt.ext {L L' : GH} {w w' : World} (h : Ext L w L' w') {a : Option Addr} {vs : List Value} (k : CellsAt L w a vs) : CellsAt L' w' a vs := by
 rcases k with k | ⟨ad, ha, hl, h1, hc⟩
 ·exact .inl k
 ·cases vs with
  | nil => exact .inl rfl
  | cons v vs =>
   have hb : ad.block < w.heap.size := by
    have := World.block_lt_of_cell? w _ (hc 0 v rfl)
    have e : ad.add 0 = ad := rfl
    rwa [e] at this
   refine .inr ⟨ad, ha, h.dom _ hb hl, h1, fun i u hu => ?_⟩
   have e : (ad.add i).block = ad.block := by unfold Addr.add; split <;> rfl
   rw [World.cell?_of_block (w := w) (by rw [e]; exact h.keep _ hb hl)]
   exact hc i u hu
mutual
theorem VS.ext {L L' : GH} {w w' : World} (h : Ext L w L' w') : ∀ (v : AV) (x : Value), VS L w v x → VS L' w' v x
 | .p v, x, hx => by simpa [VS] using hx
 | .sl g sz off n, x, hx => by
  simp only [VS] at hx ⊢
  obtain ⟨a, cap, rfl, hn, hc⟩ := hx
  refine ⟨a, cap, rfl, hn, ?_⟩
  rcases hc with hc | ⟨ha, c, e, fr, hh, hs⟩
  ·exact .inl hc
  ·obtain ⟨c', e', fr', h', s'⟩ := h.shape _ _ _ _ hh
   exact .inr ⟨ha, c', e', fr', h', by omega⟩
 | .ptr g off, x, hx => by simpa [VS] using hx
 | .fz n cs, x, hx => by
  simp only [VS] at hx ⊢
  obtain ⟨a, cap, vs, rfl, hn, hc, hv⟩ := hx
  exact ⟨a, cap, vs, rfl, hn, hc.ext h, VSL.ext h cs vs hv⟩
 | .fzc n cs, x, hx => by
  simp only [VS] at hx ⊢
  obtain ⟨a, vs, rfl, hc, hv⟩ := hx
  exact ⟨a, vs, rfl, hc.ext h, VSL.ext h cs vs hv⟩
 | .fp cs, x, hx => by
  simp only [VS] at hx ⊢
  obtain ⟨a, vs, rfl, hc, hv⟩ := hx
  exact ⟨a, vs, rfl, hc.ext h, VSL.ext h cs vs hv⟩
 | .agg cs, x, hx => by
  simp only [VS] at hx ⊢
  obtain ⟨vs, rfl, hv⟩ := hx
  exact ⟨vs, rfl, VSL.ext h cs vs hv⟩
 | .tup cs, x, hx => by
  simp only [VS] at hx ⊢
  obtain ⟨vs, rfl, hv⟩ := hx
  exact ⟨vs, rfl, VSL.ext h cs vs hv⟩
 | .iface t v, x, hx => by
  simp only [VS] at hx ⊢
  obtain ⟨y, rfl, hv⟩ := hx
  exact ⟨y, rfl, VS.ext h v y hv⟩
 | .fn f cs, x, hx => by
  simp only [VS] at hx ⊢
  obtain ⟨vs, rfl, hv⟩ := hx
  exact ⟨vs, rfl, VSL.ext h cs vs hv⟩
 | .top, x, _ => by simp [VS]
theorem VSL.ext {L L' : GH} {w w' : World} (h : Ext L w L' w') : ∀ (cs : List AV) (vs : List Value), VSL L w cs vs → VSL L' w' cs vs
 | [], [], _ => by simp [VSL]
 | c :: cs, v :: vs, hx => by
  simp only [VSL] at hx ⊢
  exact ⟨VS.ext h c v hx.1, VSL.ext h cs vs hx.2⟩
 | [], _ :: _, hx => by simp [VSL] at hx
 | _ :: _, [], hx => by simp [VSL] at hx
end
theorem VSL.length {L : GH} {w : World} : ∀ {cs : List AV} {vs : List Value}, VSL L w cs vs → cs.length = vs.length
 | [], [], _ => rfl
 | _ :: cs, _ :: vs, h => by simp only [VSL] at h; simp [VSL.length h.2]
 | [], _ :: _, h => by simp [VSL] at h
 | _ :: _, [], h => by simp [VSL] at h
theorem VSL.get {L : GH} {w : World} : ∀ {cs : List AV} {vs : List Value}, VSL L w cs vs → ∀ (i : Nat) (c : AV), cs[i]? = some c → ∃ v, vs[i]? = some v ∧ VS L w c v
 | [], [], _, i, c, h => by simp at h
 | a :: cs, v :: vs, h, 0, c, hi => by
  simp only [VSL] at h
  simp at hi
  subst hi
  exact ⟨v, rfl, h.1⟩
 | a :: cs, v :: vs, h, i + 1, c, hi => by
  simp only [VSL] at h
  simp at hi
  obtain ⟨u, hu, hv⟩ := VSL.get h.2 i c hi
  exact ⟨u, by simpa using hu, hv⟩
 | [], _ :: _, h, _, _, _ => by simp [VSL] at h
 | _ :: _, [], h, _, _, _ => by simp [VSL] at h
theorem VSL.append {L : GH} {w : World} : ∀ {cs ds : List AV} {vs us : List Value}, VSL L w cs vs → VSL L w ds us → VSL L w (cs ++ ds) (vs ++ us)
 | [], ds, [], us, _, h => by simpa using h
 | c :: cs, ds, v :: vs, us, h, k => by
  simp only [VSL] at h
  simp only [List.cons_append, VSL]
  exact ⟨h.1, VSL.append h.2 k⟩
 | [], _, _ :: _, _, h, _ => by simp [VSL] at h
 | _ :: _, _, [], _, h, _ => by simp [VSL] at h
theorem VSL.take {L : GH} {w : World} : ∀ {cs : List AV} {vs : List Value} (n : Nat), VSL L w cs vs → VSL L w (cs.take n) (vs.take n)
 | _, _, 0, _ => by simp [VSL]
 | [], [], n + 1, _ => by simp [VSL]
 | c :: cs, v :: vs, n + 1, h => by
  simp only [VSL] at h
  simp only [List.take_succ_cons, VSL]
  exact ⟨h.1, VSL.take n h.2⟩
 | [], _ :: _, _ + 1, h => by simp [VSL] at h
 | _ :: _, [], _ + 1, h => by simp [VSL] at h
theorem VSL.drop {L : GH} {w : World} : ∀ {cs : List AV} {vs : List Value} (n : Nat), VSL L w cs vs → VSL L w (cs.drop n) (vs.drop n)
 | cs, vs, 0, h => by simpa using h
 | [], [], n + 1, _ => by simp [VSL]
 | c :: cs, v :: vs, n + 1, h => by
  simp only [VSL] at h
  simp only [List.drop_succ_cons]
  exact VSL.drop n h.2
 | [], _ :: _, _ + 1, h => by simp [VSL] at h
 | _ :: _, [], _ + 1, h => by simp [VSL] at h
theorem VSL.set {L : GH} {w : World} : ∀ {cs : List AV} {vs : List Value} (i : Nat) (c : AV) (v : Value), VSL L w cs vs → VS L w c v → VSL L w (cs.set i c) (vs.set i v)
 | [], [], i, c, v, _, _ => by simp [VSL]
 | a :: cs, u :: vs, 0, c, v, h, k => by
  simp only [VSL] at h
  simp only [List.set_cons_zero, VSL]
  exact ⟨k, h.2⟩
 | a :: cs, u :: vs, i + 1, c, v, h, k => by
  simp only [VSL] at h
  simp only [List.set_cons_succ, VSL]
  exact ⟨h.1, VSL.set i c v h.2 k⟩
 | [], _ :: _, _, _, _, h, _ => by simp [VSL] at h
 | _ :: _, [], _, _, _, h, _ => by simp [VSL] at h
theorem RowR.ext {L L' : GH} {w w' : World} (h : Ext L w L' w') {g : Nat} {r : Row} (k : RowR L w g r) (hb : w'.heap[g]? = w.heap[g]?) : RowR L' w' g r := by
 unfold RowR at k ⊢
 split at k
 ·obtain ⟨c, fr, vs, hc, ha, hf, hl, hv, hvs, h1⟩ := k
  exact ⟨c, fr, vs, hb.trans hc, ha, hf, hl, hv, VSL.ext h _ _ hvs, h1⟩
 ·exact ⟨k.1, hb.trans k.2⟩
 ·obtain ⟨k1, es, clock, k2, k3⟩ := k
  exact ⟨k1, es, clock, hb.trans k2, k3⟩
 ·obtain ⟨k1, k0, es, clock, seen, k2, k3, k4⟩ := k
  have hm := (Array.getElem?_eq_some_iff.1 k3).1
  exact ⟨k1, h.dom _ hm k0, es, clock, seen, hb.trans k2, (h.keep _ hm k0).trans k3, k4⟩
 ·exact ⟨k.1, hb.trans k.2⟩
def GV.is : GV → Value → Prop
 | .val v, x => x = v
 | .int k, x => ∃ i, x = .int k i
 | .ifc, x => x = .nilIface ∨ ∃ u v, x = .iface u v
def GV.av : GV → AV
 | .val v => .p v
 | .int _ => .top
 | .ifc => .top
def Glb (L : GH) (w : World) : Prop := ∀ g vs, (g, vs) ∈ glbT → L g = none ∧ g < w.heap.size ∧ (∀ i v, vs[i]? = some v → ∃ x, w.cell? ⟨g, i, none⟩ = some x ∧ v.is x ∧ x.oneCell' = true) ∧ ∃ c e fr, w.heap[g]? = some (.cells c e fr) ∧ c.size = vs.length
theorem Glb.ext {L L' : GH} {w w' : World} (h : Ext L w L' w') (k : Glb L w) : Glb L' w' := by
 intro g vs hg
 obtain ⟨h1, h2, h3, c, e, fr, h4, h5⟩ := k g vs hg
 refine ⟨h.dom _ h2 h1, Nat.lt_of_lt_of_le h2 h.size, fun i v hi => ?_, c, e, fr, by rw [h.keep _ h2 h1]; exact h4, h5⟩
 obtain ⟨x, hx, hv⟩ := h3 i v hi
 exact ⟨x, by rw [World.cell?_of_block (w := w) (h.keep _ h2 h1)]; exact hx, hv⟩
def gfind : List (Nat × List GV) → Nat → Option (List GV)
 | [], _ => none
 | (d, v) :: l, i => bif Nat.beq i d then some v else gfind l i
theorem gfind_mem : ∀ {l : List (Nat × List GV)} {g : Nat} {vs : List GV}, gfind l g = some vs → (g, vs) ∈ l
 | [], _, _, h => by cases h
 | (d, v) :: l, i, vs, h => by
  simp only [gfind] at h
  cases e : Nat.beq i d with
  | true =>
   rw [e] at h
   simp only [cond_true, Option.some.injEq] at h
   rw [Nat.eq_of_beq_eq_true e, h]
   exact List.mem_cons_self
  | false =>
   rw [e] at h
   exact List.mem_cons_of_mem _ (gfind_mem h)
theorem Glb.fp {L : GH} {w : World} (k : Glb L w) {g : Nat} {vs : List GV} (h : (g, vs) ∈ glbT) : VS L w (.fp (vs.map GV.av)) (.pointer (some ⟨g, 0, none⟩)) := by
 obtain ⟨h1, h2, h3, _⟩ := k g vs h
 have : ∀ (l : List GV) (o : Nat), (∀ i v, l[i]? = some v → ∃ x, w.cell? ⟨g, o + i, none⟩ = some x ∧ v.is x ∧ x.oneCell' = true) →
   ∃ xs : List Value, VSL L w (l.map GV.av) xs ∧ (∀ x ∈ xs, x.oneCell' = true) ∧ ∀ i x, xs[i]? = some x → w.cell? ⟨g, o + i, none⟩ = some x := by
  intro l
  induction l with
  | nil => intro o _; exact ⟨[], by simp [VSL], by simp, by simp⟩
  | cons v l ih =>
   intro o hl
   obtain ⟨x, hx, hv, h1⟩ := hl 0 v rfl
   obtain ⟨xs, k1, k2, k3⟩ := ih (o + 1) fun i v hi => by
    obtain ⟨x, hx⟩ := hl (i + 1) v (by simpa using hi)
    exact ⟨x, by rw [Nat.add_assoc, Nat.add_comm 1]; exact hx⟩
   refine ⟨x :: xs, ?_, ?_, ?_⟩
   ·simp only [List.map_cons, VSL]
    refine ⟨?_, k1⟩
    cases v with
    | val u => simpa [GV.av, VS, GV.is] using hv
    | int k => simp [GV.av, VS]
    | ifc => simp [GV.av, VS]
   ·intro y hy
    rcases List.mem_cons.1 hy with rfl | hy
    ·exact h1
    ·exact k2 y hy
   ·intro i y hi
    match i with
    | 0 => simp only [List.getElem?_cons_zero, Option.some.injEq] at hi; subst hi; exact hx
    | i + 1 =>
     have := k3 i y (by simpa using hi)
     rw [Nat.add_assoc, Nat.add_comm 1] at this
     exact this
 obtain ⟨xs, k1, k2, k3⟩ := this vs 0 fun i v hi => by rw [Nat.zero_add]; exact h3 i v hi
 simp only [VS]
 refine ⟨_, xs, rfl, .inr ⟨_, rfl, h1, k2, fun i x hi => ?_⟩, k1⟩
 have := k3 i x hi
 rw [Nat.zero_add] at this
 have e : Addr.add ⟨g, 0, none⟩ i = ⟨g, i, none⟩ := by
  unfold Addr.add
  split
  ·rename_i h; simp [h]
  ·simp
 rw [e]
 exact this
structure Sim (N : Nat) (t : TM) (L : GH) (a : Act) (w : World) : Prop where
 tm : ∀ i, VS L w (t i) (a.tmps.getD i undef)
 rows : ∀ g r, L g = some r → RowR L w g r
 size : a.tmps.size = N
 df : a.defers = [] ∧ Glb L w
theorem Sim.ext {N : Nat} {t : TM} {L L' : GH} {a : Act} {w w' : World} (s : Sim N t L a w) (h : Ext L w L' w') (hr : ∀ g r, L' g = some r → RowR L' w' g r) : Sim N t L' a w' :=
 ⟨fun i => VS.ext h _ _ (s.tm i), hr, s.size, s.df.1, s.df.2.ext h⟩
def TM.put (t : TM) (d : Nat) (v : AV) : TM := fun i => if i = d then v else t i
theorem TM.put_same (t : TM) (d : Nat) (v : AV) : t.put d v d = v := by simp [TM.put]
theorem TM.put_ne (t : TM) (d : Nat) (v : AV) (i : Nat) (h : i ≠ d) : t.put d v i = t i := by simp [TM.put, h]
def TM.putO (t : TM) : Option Nat → AV → TM
 | some d, v => t.put d v
 | none, _ => t
theorem Sim.put {N : Nat} {t : TM} {L : GH} {a : Act} {w : World} (s : Sim N t L a w) (d : Nat) (hd : d < N) {v : AV} {x : Value} (hv : VS L w v x) : Sim N (t.put d v) L (a.put (some d) x) w := by
 refine ⟨fun i => ?_, s.rows, by simp [Act.put, s.size], s.df⟩
 unfold TM.put Act.put
 by_cases h : i = d
 ·subst h
  have hs : i < a.tmps.size := by rw [s.size]; exact hd
  simpa [Array.getD_eq_getD_getElem?, hs] using hv
 ·have := s.tm i
  rw [if_neg h]
  simpa [Array.getD_eq_getD_getElem?, Array.getElem?_setIfInBounds, Ne.symm h] using this
def LQ (N : Nat) (L0 : GH) (w0 : World) (Q : Exit → TM → GH → Prop) (e : Exit) (a : Act) (w : World) : Prop :=
 ∃ t L, Sim N t L a w ∧ Ext L0 w0 L w ∧ Q e t L
def FR (ro : Option Nat) : Fence := { Fence.wide with round := ro }
theorem callsIn_fr {ro : Option Nat} {n : Nat} {P : Program} {f : FuncId} {args : Array Value} {w : World} {R : Ending → World → Prop} : CallsIn (FR ro) n P f args w R ↔ Calls P f args w R := by
 cases ro with
 | none => exact callsIn_wide
 | some l => exact callsIn_wide (n := n)
theorem rowsIn_fr {ro : Option Nat} {n : Nat} {P : Program} {row : String} {args : Array Value} {w : World} {R : Value → World → Prop} (h : Rows P row args w R) : RowsIn (FR ro) n P row args w R := by
 have k : RowsIn Fence.wide n P row args w R := fun c cs _ => let ⟨v, w', r, s⟩ := h c cs; ⟨v, w', r, stepsIn_wide.2 s⟩
 cases ro with
 | none => exact k
 | some l => exact k
theorem op_in {P : Program} {o : Oper} {a : Act} {w : World} {K : Act → World → Prop} {Q : Exit → Act → World → Prop} (ro : Option Nat) (hnd : ∀ c, o.op ≠ .defer c) (h : o.wp P a w K Q) : o.wpIn (FR ro) 0 P a w K Q := by
 unfold Oper.wpIn
 refine ⟨fun f _ => trivial, ?_⟩
 rw [Oper.semAt_eq _ _ _ hnd]
 unfold Oper.wp at h
 revert h
 cases (execOp a.eval o).run P w with
 | ok x w' =>
  have hd : (FR ro).depth.isSome = true → 1 ≤ 0 := fun k => by cases ro <;> cases k
  cases x
  case enter f args =>
   intro h
   exact ⟨hd, callsIn_fr.2 (Calls.mono h fun e w'' he => by cases e <;> exact he)⟩
  case row r args =>
   intro h
   exact ⟨hd, rowsIn_fr h⟩
  all_goals first
   | exact fun h => h
   | exact fun h => h.elim
 | halt x w' => cases x <;> simp only [Oper.upon, Oper.uponIn] <;> exact fun h => h
theorem nd_of {P : Program} {o : Oper} {ρ : Operand → Value} {w w' : World} {x : Next} (h : (execOp ρ o).run P w = .ok x w') (hx : ∀ d, x ≠ .defer d) : ∀ c, o.op ≠ .defer c := by
 intro c hc
 have e : execOp ρ o = (do pure (.defer (← resolve ρ c o.type))) := by unfold execOp; simp only [hc]
 rw [e, Sem.run_bind] at h
 cases hr : (resolve ρ c o.type).run P w with
 | ok d w1 =>
  rw [hr] at h
  simp [Result.andThen, Sem.run] at h
  exact hx d h.1.symm
 | halt y w1 => rw [hr] at h; simp [Result.andThen] at h
section
variable {P : Program} {b : Frame} {a : Act} {k : List Item} {cs : List Frame} {w : World} {Q : Exit → Act → World → Prop} {F : Fence} {n : Nat}
theorem stepR_scope {c : Code} : step P (lone (b.atR a (.code (.scope c) :: k)) cs w) = .next (lone (b.atR a (.code c :: .inScope c :: k)) cs w) :=
 step_lone_go (by simp [stepG, stepG.exec, Frame.atR])
theorem stepR_inScope {c : Code} : step P (lone (b.atR a (.inScope c :: k)) cs w) = .next (lone (b.atR a k) cs w) :=
 step_lone_go (by simp [stepG, stepG.exec, Frame.atR])
theorem wpIn_scope_straight {c : Code} (h : c.wpIn F n P (Exit.noGoto Q) a w) : (Code.scope c).wpIn F n P Q a w := by
 intro b k cs hro hb hr
 obtain ⟨e, a₁, w₁, hq, harr⟩ := h b (.inScope c :: k) cs hro hb hr
 have h0 : (lone (b.atR a (.code (.scope c) :: k)) cs w).fenced P F := fenced_calm hb hr rfl
 cases e with
 | normal => exact ⟨.normal, a₁, w₁, hq, .head h0 stepR_scope (StepsIn.trans harr (.one (fenced_calm hb hr rfl) stepR_inScope))⟩
 | exit id =>
  have hx : exitTo id (.inScope c :: k) = exitTo id k := by simp [exitTo]
  exact ⟨.exit id, a₁, w₁, hq, fun k' hk => .head h0 stepR_scope (harr.1 k' (by rw [hx]; exact hk)),
   fun hr' hk => let ⟨k₁, h1, h2⟩ := harr.2 hr' (by rw [hx]; exact hk); ⟨k₁, h1, .head h0 stepR_scope h2⟩⟩
 | goto l => exact hq.elim
 | ret => exact ⟨_, a₁, w₁, hq, .of_steps (.one h0 stepR_scope) harr⟩
 | panic ch => exact ⟨_, a₁, w₁, hq, .of_steps (.one h0 stepR_scope) harr⟩
 | outgrown => exact ⟨_, a₁, w₁, hq, .of_steps (.one h0 stepR_scope) harr⟩
theorem wpIn_loop_ghost {c : Code} (I : Nat → Act → World → Prop) (n₀ : Nat) (h₀ : I n₀ a w)
  (round : ∀ m a w, I m a w → c.wpIn F n P (Exit.then (fun a' w' => ∃ n', n' < m ∧ I n' a' w') Q) a w) : (Code.loop c).wpIn F n P Q a w := by
 refine wpIn_loop (fun a w => ∃ n, I n a w) (fun a w => leastOf (fun n => I n a w)) ⟨n₀, h₀⟩ ?_
 intro a w hI
 refine wpIn_mono (round _ a w (leastOf_spec hI).1) ?_
 intro e a' w' hq
 cases e with
 | normal =>
  obtain ⟨n', hlt, hI'⟩ := hq
  exact show (∃ n, I n a' w') ∧ leastOf (fun n => I n a' w') < leastOf (fun n => I n a w) from ⟨⟨n', hI'⟩, Nat.lt_of_le_of_lt ((leastOf_spec ⟨n', hI'⟩).2 n' hI') hlt⟩
 | exit id => exact hq
 | goto l => exact hq
 | ret => exact hq
 | panic ch => exact hq
 | outgrown => exact hq
end
def J (P : Program) (N : Nat) (c : Code) (Q : Exit → TM → GH → Prop) (t : TM) (L : GH) : Prop :=
 ∀ ro L0 w0 a w, Ext L0 w0 L w → Sim N t L a w → c.wpIn (FR ro) 0 P (LQ N L0 w0 Q) a w
def JO (P : Program) (N : Nat) (ops : Array Oper) (Q : Exit → TM → GH → Prop) (os : List Oper) (t : TM) (L : GH) : Prop :=
 ∀ ro L0 w0 a w, Ext L0 w0 L w → Sim N t L a w → wpListIn (FR ro) 0 P ops (LQ N L0 w0 Q) os a w
theorem J.mono {P : Program} {N : Nat} {c : Code} {Q Q' : Exit → TM → GH → Prop} {t : TM} {L : GH} (h : J P N c Q t L) (hq : ∀ e t L, Q e t L → Q' e t L) : J P N c Q' t L :=
 fun ro L0 w0 a w he hs => wpIn_mono (h ro L0 w0 a w he hs) fun e a w ⟨t, L, s, x, q⟩ => ⟨t, L, s, x, hq _ _ _ q⟩
theorem J.wp {P : Program} {N : Nat} {c : Code} {Q : Exit → TM → GH → Prop} {t : TM} {L : GH} (h : J P N c Q t L) (L0 : GH) (w0 : World) (a : Act) (w : World) (he : Ext L0 w0 L w) (hs : Sim N t L a w) : c.wp P (LQ N L0 w0 Q) a w := (wpIn_wide (n := 0)).1 (h none L0 w0 a w he hs)
theorem J.drop {P : Program} {N : Nat} {c : Code} {Q : Exit → TM → GH → Prop} {t : TM} {L : GH} (L' : GH) (hl : ∀ g r, L' g = some r → L g = some r) (h : J P N c Q t L') : J P N c Q t L := by
 intro ro L0 w0 a w he hs
 have hd : ∀ b, L b = none → L' b = none := fun b hb => by
  cases h' : L' b with
  | none => rfl
  | some r => rw [hl b r h'] at hb; cases hb
 have hx := Ext.drop w hd
 exact h ro L0 w0 a w (he.trans hx) (hs.ext hx fun g r hr => (hs.rows g r (hl g r hr)).ext hx rfl)
def thn (K : TM → GH → Prop) (Q : Exit → TM → GH → Prop) : Exit → TM → GH → Prop
 | .normal, t, L => K t L
 | e, t, L => Q e t L
theorem J.seq {P : Program} {N : Nat} {x y : Code} {Q : Exit → TM → GH → Prop} {t : TM} {L : GH} (h : J P N x (thn (J P N y Q) Q) t L) : J P N (.seq x y) Q t L := by
 intro ro L0 w0 a w he hs
 refine wpIn_seq (wpIn_mono (h ro L0 w0 a w he hs) ?_)
 rintro e a' w' ⟨t', L', s, x, q⟩
 cases e with
 | normal => exact q ro L0 w0 a' w' x s
 | exit id => exact ⟨t', L', s, x, q⟩
 | goto l => exact ⟨t', L', s, x, q⟩
 | ret => exact ⟨t', L', s, x, q⟩
 | panic ch => exact ⟨t', L', s, x, q⟩
 | outgrown => exact ⟨t', L', s, x, q⟩
theorem J.skip {P : Program} {N : Nat} {Q : Exit → TM → GH → Prop} {t : TM} {L : GH} (h : Q .normal t L) : J P N .skip Q t L :=
 fun ro L0 w0 a w he hs => wpIn_skip ⟨t, L, hs, he, h⟩
theorem J.exit {P : Program} {N : Nat} {id : Nat} {Q : Exit → TM → GH → Prop} {t : TM} {L : GH} (h : Q (.exit id) t L) : J P N (.exit id) Q t L :=
 fun ro L0 w0 a w he hs => wpIn_exit ⟨t, L, hs, he, h⟩
theorem J.ret {P : Program} {N : Nat} {Q : Exit → TM → GH → Prop} {t : TM} {L : GH} (h : Q .ret t L) : J P N .ret Q t L :=
 fun ro L0 w0 a w he hs => wpIn_ret ⟨t, L, hs, he, h⟩
theorem J.label {P : Program} {N : Nat} {l : Nat} {Q : Exit → TM → GH → Prop} {t : TM} {L : GH} (h : Q .normal t L) : J P N (.label l) Q t L :=
 fun ro L0 w0 a w he hs => wpIn_label ⟨t, L, hs, he, h⟩
def noG (Q : Exit → TM → GH → Prop) : Exit → TM → GH → Prop
 | .goto _, _, _ => False
 | e, t, L => Q e t L
theorem J.scope {P : Program} {N : Nat} {c : Code} {Q : Exit → TM → GH → Prop} {t : TM} {L : GH} (h : J P N c (noG Q) t L) : J P N (.scope c) Q t L := by
 intro ro L0 w0 a w he hs
 refine wpIn_scope_straight (wpIn_mono (h ro L0 w0 a w he hs) ?_)
 rintro e a' w' ⟨t', L', s, x, q⟩
 cases e with
 | goto l => exact q.elim
 | normal => exact ⟨t', L', s, x, q⟩
 | exit id => exact ⟨t', L', s, x, q⟩
 | ret => exact ⟨t', L', s, x, q⟩
 | panic ch => exact ⟨t', L', s, x, q⟩
 | outgrown => exact ⟨t', L', s, x, q⟩
def inb (id : Nat) (Q : Exit → TM → GH → Prop) : Exit → TM → GH → Prop
 | .exit j, t, L => if j = id then Q .normal t L else Q (.exit j) t L
 | e, t, L => Q e t L
theorem J.block {P : Program} {N : Nat} {id : Nat} {c : Code} {Q : Exit → TM → GH → Prop} {t : TM} {L : GH} (h : J P N c (inb id Q) t L) : J P N (.block id c) Q t L := by
 intro ro L0 w0 a w he hs
 refine wpIn_block (wpIn_mono (h ro L0 w0 a w he hs) ?_)
 rintro e a' w' ⟨t', L', s, x, q⟩
 cases e with
 | exit j =>
  simp only [inb] at q
  simp only [Exit.inBlock]
  split
  ·rename_i hj
   rw [if_pos hj] at q
   exact ⟨t', L', s, x, q⟩
  ·rename_i hj
   rw [if_neg hj] at q
   exact ⟨t', L', s, x, q⟩
 | normal => exact ⟨t', L', s, x, q⟩
 | goto l => exact ⟨t', L', s, x, q⟩
 | ret => exact ⟨t', L', s, x, q⟩
 | panic ch => exact ⟨t', L', s, x, q⟩
 | outgrown => exact ⟨t', L', s, x, q⟩
def ev (t : TM) : Operand → AV
 | .tmp n => t n
 | .const v => .p v
 | .global g => match gfind glbT g with
  | some vs => .fp (vs.map GV.av)
  | none => .top
 | .func f => .p (.func (.func f) #[] #[])
theorem Sim.ev {N : Nat} {t : TM} {L : GH} {a : Act} {w : World} (s : Sim N t L a w) (o : Operand) : VS L w (ev t o) (a.eval o) := by
 cases o with
 | tmp n => exact s.tm n
 | const v => simp [YtaglpckihegmoaaDoorAv.ev, VS, Act.eval]
 | global g =>
  show VS L w (match gfind glbT g with | some vs => .fp (vs.map GV.av) | none => .top) _
  cases h : gfind glbT g with
  | some vs => exact s.df.2.fp (gfind_mem h)
  | none => simp [VS]
 | func f => simp [YtaglpckihegmoaaDoorAv.ev, VS, Act.eval]
theorem J.cond {P : Program} {N : Nat} {o : Operand} {b : Bool} {x y : Code} {Q : Exit → TM → GH → Prop} {t : TM} {L : GH} (ho : ev t o = .p (.bool b))
  (h1 : b = true → J P N x Q t L) (h2 : b = false → J P N y Q t L) : J P N (.cond o x y) Q t L := by
 intro ro L0 w0 a w he hs
 have hv := hs.ev o
 rw [ho] at hv
 simp only [VS] at hv
 cases b with
 | true => exact wpIn_cond_true hv (h1 rfl ro L0 w0 a w he hs)
 | false => exact wpIn_cond_false hv (h2 rfl ro L0 w0 a w he hs)
theorem J.loop {P : Program} {N : Nat} {c : Code} {Q : Exit → TM → GH → Prop} {t : TM} {L : GH} (I : Nat → TM → GH → Prop) (n : Nat) (h0 : I n t L)
  (round : ∀ n t L, I n t L → J P N c (thn (fun t' L' => ∃ n', n' < n ∧ I n' t' L') Q) t L) : J P N (.loop c) Q t L := by
 intro ro L0 w0 a w he hs
 refine wpIn_loop_ghost (fun n a w => ∃ t L, Sim N t L a w ∧ Ext L0 w0 L w ∧ I n t L) n ⟨t, L, hs, he, h0⟩ ?_
 rintro n a w ⟨t, L, s, x, hI⟩
 refine wpIn_mono (round n t L hI ro L0 w0 a w x s) ?_
 rintro e a' w' ⟨t', L', s', x', q⟩
 cases e with
 | normal =>
  obtain ⟨n', hlt, q⟩ := q
  exact ⟨n', hlt, t', L', s', x', q⟩
 | exit id => exact ⟨t', L', s', x', q⟩
 | goto l => exact ⟨t', L', s', x', q⟩
 | ret => exact ⟨t', L', s', x', q⟩
 | panic ch => exact ⟨t', L', s', x', q⟩
 | outgrown => exact ⟨t', L', s', x', q⟩
theorem J.region {P : Program} {N : Nat} {id : Nat} {l : List Oper} {Q : Exit → TM → GH → Prop} {t : TM} {L : GH} (h : JO P N l.toArray Q l t L) : J P N (.region id l.toArray false) Q t L :=
 fun ro L0 w0 a w he hs => wpIn_region_lit (h ro L0 w0 a w he hs)
theorem JO.nil {P : Program} {N : Nat} {ops : Array Oper} {Q : Exit → TM → GH → Prop} {t : TM} {L : GH} (h : Q .normal t L) : JO P N ops Q [] t L :=
 fun ro L0 w0 a w he hs => wpListIn_nil ⟨t, L, hs, he, h⟩
theorem JO.op {P : Program} {N : Nat} {ops : Array Oper} {Q : Exit → TM → GH → Prop} {o : Oper} {os : List Oper} {t : TM} {L : GH} (hg : o.guard = none) (t' : AV → TM)
  (h : ∀ ro L0 w0 a w, Ext L0 w0 L w → Sim N t L a w → o.wp P a w (fun a' w' => wpListIn (FR ro) 0 P ops (LQ N L0 w0 Q) os a' w') (LQ N L0 w0 Q)) (hnd : ∀ c, o.op ≠ .defer c := by intro c h; cases h) : JO P N ops Q (o :: os) t L := by
 intro ro L0 w0 a w he hs
 unfold wpListIn
 rw [if_pos (by simp [Region.wanted, hg])]
 exact op_in ro hnd (h ro L0 w0 a w he hs)
theorem JO.value {P : Program} {N : Nat} {ops : Array Oper} {Q : Exit → TM → GH → Prop} {d : Option Nat} {op : Op} {ty : TypeId} {pos : String} {af : Array Edge} {os : List Oper} {t : TM} {L : GH}
  (hd : ∀ i, d = some i → i < N)
  (h : ∀ a w, Sim N t L a w → ∃ x w' v L', (execOp a.eval ⟨d, op, ty, pos, af, none⟩).run P w = .ok (.value x) w' ∧ Ext L w L' w' ∧ (∀ g r, L' g = some r → RowR L' w' g r) ∧ VS L' w' v x ∧
   JO P N ops Q os (t.putO d v) L') : JO P N ops Q (⟨d, op, ty, pos, af, none⟩ :: os) t L := by
 intro ro L0 w0 a w he hs
 obtain ⟨x, w', v, L', hr, hx, hrows, hv, hj⟩ := h a w hs
 unfold wpListIn
 rw [if_pos (by simp [Region.wanted])]
 refine op_in ro (nd_of hr fun d h => by cases h) ?_
 unfold Oper.wp
 rw [hr]
 simp only [Oper.upon_value]
 refine hj ro L0 w0 _ w' (he.trans hx) ?_
 have s' := hs.ext hx hrows
 cases d with
 | none => exact s'
 | some i => exact s'.put i (hd i rfl) hv
theorem JO.off {P : Program} {N : Nat} {ops : Array Oper} {Q : Exit → TM → GH → Prop} {d j s : Nat} {b c : Bool} {op : Op} {ty : TypeId} {pos : String} {af : Array Edge} {os : List Oper} {t : TM} {L : GH}
  (hd : d < N) (hs : s < N) (hj : (ops[j]?).bind (·.dst) = some s) (ht : t s = .p (.bool c)) (hc : (c == b) = false)
  (h : JO P N ops Q os (t.put d (.p undef)) L) : JO P N ops Q (⟨some d, op, ty, pos, af, some (j, b)⟩ :: os) t L := by
 intro ro L0 w0 a w he sm
 have hv := sm.tm s
 rw [ht] at hv
 simp only [VS] at hv
 have hw : Region.wanted ⟨some d, op, ty, pos, af, some (j, b)⟩ (yielded ops a.tmps) = false := by
  have hsz : s < a.tmps.size := by rw [sm.size]; exact hs
  have h2 : a.tmps[s]? = some (.bool c) := by
   rw [Array.getD_eq_getD_getElem?, Array.getElem?_eq_getElem hsz] at hv
   rw [Array.getElem?_eq_getElem hsz]
   simpa using hv
  simp only [Region.wanted, yielded, hj, Option.bind_some, h2]
  cases b <;> cases c <;> simp_all
 unfold wpListIn
 rw [if_neg (by rw [hw]; simp)]
 exact And.intro (fun _ _ => trivial) <| h ro L0 w0 _ w he (sm.put d hd (by simp [VS]))
theorem JO.offU {P : Program} {N : Nat} {ops : Array Oper} {Q : Exit → TM → GH → Prop} {d j s : Nat} {b : Bool} {op : Op} {ty : TypeId} {pos : String} {af : Array Edge} {os : List Oper} {t : TM} {L : GH}
  (hd : d < N) (hs : s < N) (hj : (ops[j]?).bind (·.dst) = some s) (ht : t s = .p undef)
  (h : JO P N ops Q os (t.put d (.p undef)) L) : JO P N ops Q (⟨some d, op, ty, pos, af, some (j, b)⟩ :: os) t L := by
 intro ro L0 w0 a w he sm
 have hv := sm.tm s
 rw [ht] at hv
 simp only [VS] at hv
 have hw : Region.wanted ⟨some d, op, ty, pos, af, some (j, b)⟩ (yielded ops a.tmps) = false := by
  have hsz : s < a.tmps.size := by rw [sm.size]; exact hs
  have h2 : a.tmps[s]? = some undef := by
   rw [Array.getD_eq_getD_getElem?, Array.getElem?_eq_getElem hsz] at hv
   rw [Array.getElem?_eq_getElem hsz]
   simpa using hv
  simp only [Region.wanted, yielded, hj, Option.bind_some, h2, undef]
  rfl
 unfold wpListIn
 rw [if_neg (by rw [hw]; simp)]
 exact And.intro (fun _ _ => trivial) <| h ro L0 w0 _ w he (sm.put d hd (by simp [VS]))
theorem JO.on {P : Program} {N : Nat} {ops : Array Oper} {Q : Exit → TM → GH → Prop} {d : Option Nat} {j s : Nat} {b c : Bool} {op : Op} {ty : TypeId} {pos : String} {af : Array Edge} {os : List Oper} {t : TM} {L : GH}
  (hs : s < N) (hj : (ops[j]?).bind (·.dst) = some s) (ht : t s = .p (.bool c)) (hc : (c == b) = true)
  (h : JO P N ops Q (⟨d, op, ty, pos, af, none⟩ :: os) t L) : JO P N ops Q (⟨d, op, ty, pos, af, some (j, b)⟩ :: os) t L := by
 intro ro L0 w0 a w he sm
 have hv := sm.tm s
 rw [ht] at hv
 simp only [VS] at hv
 have hw : Region.wanted ⟨d, op, ty, pos, af, some (j, b)⟩ (yielded ops a.tmps) = true := by
  have hsz : s < a.tmps.size := by rw [sm.size]; exact hs
  have h2 : a.tmps[s]? = some (.bool c) := by
   rw [Array.getD_eq_getD_getElem?, Array.getElem?_eq_getElem hsz] at hv
   rw [Array.getElem?_eq_getElem hsz]
   simpa using hv
  simp only [Region.wanted, yielded, hj, Option.bind_some, h2]
  cases b <;> cases c <;> simp_all
 have := h ro L0 w0 a w he sm
 unfold wpListIn at this ⊢
 rw [if_pos hw]
 rw [if_pos (by simp [Region.wanted])] at this
 exact this
end Go.Proofs.YtaglpckihegmoaaDoorAv
namespace Go.Proofs.YtaglpckihegmoaaDoorAv
open Go Go.RowKit
def ibin (op : BinOp) (k : IntKind) (a b : Int) : Option AV :=
 match op with
 | .add => some (.p (.int k (k.wrap (a + b))))
 | .sub => some (.p (.int k (k.wrap (a - b))))
 | .mul => some (.p (.int k (k.wrap (a * b))))
 | .quo => if b = 0 then none else some (.p (.int k (k.wrap (a.tdiv b))))
 | .rem => if b = 0 then none else some (.p (.int k (a.tmod b)))
 | .and => some (.p (.int k (bits .and k a b)))
 | .or => some (.p (.int k (bits .or k a b)))
 | .xor => some (.p (.int k (bits .xor k a b)))
 | .andNot => some (.p (.int k (bits .andNot k a b)))
 | .eql => some (.p (.bool (a == b)))
 | .neq => some (.p (.bool (a != b)))
 | .lss => some (.p (.bool (decide (a < b))))
 | .leq => some (.p (.bool (decide (a ≤ b))))
 | .gtr => some (.p (.bool (decide (a > b))))
 | .geq => some (.p (.bool (decide (a ≥ b))))
 | _ => none
def sbin (op : BinOp) (a b : ByteArray) : Option AV :=
 match op with
 | .eql => some (.p (.bool (decide (a = b))))
 | .neq => some (.p (.bool (!decide (a = b))))
 | _ => none
def ishift (op : BinOp) (k : IntKind) (a b : Int) : Option AV :=
 match op with
 | .shl => if b < 0 then none else some (.p (.int k (k.wrap (a * 2 ^ (min b.toNat k.bits)))))
 | .shr => if b < 0 then none else some (.p (.int k (a.fdiv (2 ^ (min b.toNat k.bits)))))
 | _ => none
def fv (t : TM) : Op → Option AV
 | .move x => some (ev t x)
 | .assign x => some (ev t x)
 | .pick c a b =>
  match ev t c with
  | .p (.bool x) =>
   match x with
   | true => some (ev t a)
   | false => some (ev t b)
  | _ => none
 | .binOp op _ x y _ =>
  match ev t x with
  | .p (.int k a) =>
   match ev t y with
   | .p (.int k' b) =>
    match op with
    | .shl => ishift .shl k a b
    | .shr => ishift .shr k a b
    | op => if k = k' then ibin op k a b else none
   | _ => none
  | .p (.string a) =>
   match ev t y with
   | .p (.string b) => sbin op a b
   | _ => none
  | _ => none
 | .unOp op _ x =>
  match op, ev t x with
  | .not, .p (.bool b) => some (.p (.bool (!b)))
  | .neg, .p (.int k a) => some (.p (.int k (k.wrap (-a))))
  | _, _ => none
 | .extract x i =>
  match ev t x with
  | .tup cs => cs[i]?
  | _ => none
 | .nilCheck x =>
  match ev t x with
  | .ptr g o => some (.ptr g o)
  | .fp cs => some (.fp cs)
  | _ => none
 | _ => none
theorem byteArray_toList_inj (a b : ByteArray) : (a.toList == b.toList) = decide (a = b) := by
 have h : a.toList = b.toList ↔ a = b := by
  rw [ByteArray.toList_eq, ByteArray.toList_eq]
  constructor
  ·intro h; apply ByteArray.ext; exact Array.toList_inj.1 h
  ·rintro rfl; rfl
 rw [Bool.eq_iff_iff]
 simp [h]
theorem ibin_run {P : Program} {op : BinOp} {k : IntKind} {a b : Int} {v : AV} (xt : TypeId) (x y : Operand) (h : ibin op k a b = some v) (w : World) :
  ∃ z, (do eqGuard op xt x y (.int k a) (.int k b); binOp op xt (.int k a) (.int k b) : Sem Value).run P w = .ok z w ∧ ∀ L, VS L w v z := by
 have hg : (eqGuard op xt x y (.int k a) (.int k b)).run P w = .ok () w := by
  unfold eqGuard
  split <;> simp
 unfold ibin at h
 cases op <;> simp only [Option.some.injEq, reduceCtorEq] at h <;> (try split at h) <;> (try simp only [Option.some.injEq, reduceCtorEq] at h) <;> (try subst h) <;>
  first
   | (simp [hg, binOp, Op.intArith, Op.intCmp, Op.intDiv, VS, *]; done)
   | (simp only [Sem.run_bind, hg, Result.andThen_ok, binOp, ne_eq, not_true_eq_false, if_false, intBits_and, intBits_or, intBits_xor, intBits_andNot, Sem.run_pure, reduceIte]; simp [VS]; done)
theorem ishift_run {P : Program} {op : BinOp} {k k' : IntKind} {a b : Int} {v : AV} (xt : TypeId) (x y : Operand) (h : ishift op k a b = some v) (w : World) :
  ∃ z, (do eqGuard op xt x y (.int k a) (.int k' b); binOp op xt (.int k a) (.int k' b) : Sem Value).run P w = .ok z w ∧ ∀ L, VS L w v z := by
 unfold ishift at h
 cases op <;> simp only [Option.some.injEq, reduceCtorEq] at h <;> split at h <;> simp only [Option.some.injEq, reduceCtorEq] at h <;> subst h <;>
  simp [eqGuard, binOp, Op.shift, VS, *]
theorem sbin_run {P : Program} {op : BinOp} {a b : ByteArray} {v : AV} (xt : TypeId) (x y : Operand) (h : sbin op a b = some v) (w : World) :
  ∃ z, (do eqGuard op xt x y (.string a) (.string b); binOp op xt (.string a) (.string b) : Sem Value).run P w = .ok z w ∧ ∀ L, VS L w v z := by
 have hg : (eqGuard op xt x y (.string a) (.string b)).run P w = .ok () w := by
  unfold eqGuard
  split <;> simp
 unfold sbin at h
 cases op <;> simp only [Option.some.injEq, reduceCtorEq] at h <;> subst h <;> simp [hg, binOp, Op.stringOp, VS, byteArray_toList_inj]
theorem fv_run {P : Program} {N : Nat} {t : TM} {L : GH} {a : Act} {w : World} (s : Sim N t L a w) {op : Op} {v : AV} (h : fv t op = some v) (d : Option Nat) (ty : TypeId) (pos : String) (af : Array Edge) :
  ∃ z, (execOp a.eval ⟨d, op, ty, pos, af, none⟩).run P w = .ok (.value z) w ∧ VS L w v z := by
 cases op with
 | move x =>
  simp only [fv, Option.some.injEq] at h
  subst h
  exact ⟨_, by simp [execOp], s.ev x⟩
 | assign x =>
  simp only [fv, Option.some.injEq] at h
  subst h
  exact ⟨_, by simp [execOp], s.ev x⟩
 | pick c x y =>
  simp only [fv] at h
  split at h
  ·rename_i b hc
   have hv := s.ev c
   rw [hc] at hv
   simp only [VS] at hv
   split at h <;> simp only [Option.some.injEq] at h <;> subst h
   ·exact ⟨_, by simp [execOp, hv, asBool], s.ev x⟩
   ·exact ⟨_, by simp [execOp, hv, asBool], s.ev y⟩
  ·cases h
 | binOp op xt x y yt =>
  simp only [fv] at h
  split at h
  ·rename_i k i hx
   split at h
   ·rename_i k' j hy
    have h1 := s.ev x
    have h2 := s.ev y
    rw [hx] at h1
    rw [hy] at h2
    simp only [VS] at h1 h2
    split at h
    ·obtain ⟨z, hz, hv⟩ := ishift_run (P := P) (k' := k') xt x y h w
     refine ⟨z, ?_, hv L⟩
     simp only [execOp, h1, h2, Sem.run_bind] at hz ⊢
     rw [hz]; rfl
    ·obtain ⟨z, hz, hv⟩ := ishift_run (P := P) (k' := k') xt x y h w
     refine ⟨z, ?_, hv L⟩
     simp only [execOp, h1, h2, Sem.run_bind] at hz ⊢
     rw [hz]; rfl
    ·split at h
     ·rename_i hk
      subst hk
      obtain ⟨z, hz, hv⟩ := ibin_run (P := P) xt x y h w
      refine ⟨z, ?_, hv L⟩
      simp only [execOp, h1, h2, Sem.run_bind] at hz ⊢
      rw [hz]; rfl
     ·cases h
   ·cases h
  ·rename_i i hx
   split at h
   ·rename_i j hy
    have h1 := s.ev x
    have h2 := s.ev y
    rw [hx] at h1
    rw [hy] at h2
    simp only [VS] at h1 h2
    obtain ⟨z, hz, hv⟩ := sbin_run (P := P) xt x y h w
    refine ⟨z, ?_, hv L⟩
    simp only [execOp, h1, h2, Sem.run_bind] at hz ⊢
    rw [hz]; rfl
   ·cases h
  ·cases h
 | unOp op xt x =>
  simp only [fv] at h
  split at h
  ·rename_i b hx
   have h1 := s.ev x
   rw [hx] at h1
   simp only [VS] at h1
   simp only [Option.some.injEq] at h
   subst h
   exact ⟨.bool (!b), by simp [execOp, h1, Op.unary], by simp [VS]⟩
  ·rename_i k b hx
   have h1 := s.ev x
   rw [hx] at h1
   simp only [VS] at h1
   simp only [Option.some.injEq] at h
   subst h
   exact ⟨.int k (k.wrap (-b)), by simp [execOp, h1, Op.unary, Op.intArith], by simp [VS]⟩
  ·cases h
 | extract x i =>
  simp only [fv] at h
  split at h
  ·rename_i cs hx
   have h1 := s.ev x
   rw [hx] at h1
   simp only [VS] at h1
   obtain ⟨vs, he, hv⟩ := h1
   obtain ⟨z, hz, hv⟩ := hv.get i v h
   refine ⟨z, ?_, hv⟩
   have hz' : vs.toArray[i]? = some z := by simpa using hz
   simp [execOp, he, Instr.extract, hz']
  ·cases h
 | nilCheck x =>
  simp only [fv] at h
  split at h
  ·rename_i g o hx
   have h1 := s.ev x
   rw [hx] at h1
   simp only [Option.some.injEq] at h
   subst h
   refine ⟨a.eval x, ?_, h1⟩
   simp only [VS] at h1
   simp [execOp, h1]
  ·rename_i cs hx
   have h1 := s.ev x
   rw [hx] at h1
   simp only [Option.some.injEq] at h
   subst h
   refine ⟨a.eval x, ?_, h1⟩
   simp only [VS] at h1
   obtain ⟨ad, vs, he, -⟩ := h1
   simp [execOp, he]
  ·cases h
 | _ => simp [fv] at h
def dok (N : Nat) : Option Nat → Bool
 | some d => decide (d < N)
 | none => true
theorem dok_lt {N : Nat} {d : Option Nat} (h : dok N d = true) : ∀ i, d = some i → i < N := by
 rintro i rfl
 simpa [dok] using h
section
variable {P : Program} {N : Nat} {ops : Array Oper} {Q : Exit → TM → GH → Prop} {d : Option Nat} {ty : TypeId} {pos : String} {af : Array Edge} {os : List Oper} {t : TM} {L : GH}
theorem JO.pure {op : Op} {v : AV} (h : fv t op = some v) (hd : dok N d = true) (k : JO P N ops Q os (t.putO d v) L) : JO P N ops Q (⟨d, op, ty, pos, af, none⟩ :: os) t L :=
 JO.value (dok_lt hd) fun a w s => by
  obtain ⟨z, hz, hv⟩ := fv_run (P := P) s h d ty pos af
  exact ⟨z, w, v, L, hz, Ext.refl _ _, s.rows, hv, k⟩
theorem JO.still {op : Op} {v : AV} (hd : dok N d = true) (h : ∀ a w, Sim N t L a w → ∃ x, (execOp a.eval ⟨d, op, ty, pos, af, none⟩).run P w = .ok (.value x) w ∧ VS L w v x)
  (k : JO P N ops Q os (t.putO d v) L) : JO P N ops Q (⟨d, op, ty, pos, af, none⟩ :: os) t L :=
 JO.value (dok_lt hd) fun a w s => by
  obtain ⟨x, hx, hv⟩ := h a w s
  exact ⟨x, w, v, L, hx, Ext.refl _ _, s.rows, hv, k⟩
theorem JO.convInt {src dst : TypeId} {x : Operand} {u : TypeDesc} {k k' : IntKind} {i : Int} (hs : P.underlying src = some u) (hdt : P.underlying dst = some (.int k)) (hx : ev t x = .p (.int k' i)) (hd : dok N d = true)
  (K : JO P N ops Q os (t.putO d (.p (.int k (k.wrap i)))) L) : JO P N ops Q (⟨d, .convert src dst x, ty, pos, af, none⟩ :: os) t L :=
 JO.still hd (fun a w s => by
  have h1 := s.ev x
  rw [hx] at h1
  simp only [VS] at h1
  exact ⟨.int k (k.wrap i), by simp [execOp, h1, convert, run_underlying hs, run_underlying hdt, Conv.intToInt], by simp [VS]⟩) K
theorem JO.lenStr {T : TypeId} {x : Operand} {b : ByteArray} (hT : P.underlying T = some .string) (hx : ev t x = .p (.string b)) (hd : dok N d = true)
  (K : JO P N ops Q os (t.putO d (.p (.int .i64 b.size))) L) : JO P N ops Q (⟨d, .call { callee := .builtin .len, args := #[x], argTypes := #[T] }, ty, pos, af, none⟩ :: os) t L :=
 JO.still hd (fun a w s => by
  have h1 := s.ev x
  rw [hx] at h1
  simp only [VS] at h1
  exact ⟨goInt b.size, by simp [execOp, h1, resolve, invoke, builtin, Builtin.len_, run_underlying hT], by simp [VS, goInt]⟩) K
def imin (x y : Int) : Int := if y < x then y else x
def imax (x y : Int) : Int := if y > x then y else x
theorem JO.min2 {ts : Array TypeId} {x y : Operand} {k k' : IntKind} {i j : Int} (hx : ev t x = .p (.int k i)) (hy : ev t y = .p (.int k' j)) (hd : dok N d = true)
  (K : JO P N ops Q os (t.putO d (.p (.int k (imin i j)))) L) : JO P N ops Q (⟨d, .call { callee := .builtin .min, args := #[x, y], argTypes := ts }, ty, pos, af, none⟩ :: os) t L :=
 JO.still hd (fun a w s => by
  have h1 := s.ev x
  have h2 := s.ev y
  rw [hx] at h1
  rw [hy] at h2
  simp only [VS] at h1 h2
  exact ⟨.int k (imin i j), by simp [execOp, h1, h2, resolve, invoke, builtin, Builtin.min_, Builtin.min2, imin], by simp [VS]⟩) K
theorem JO.min3 {ts : Array TypeId} {x y z : Operand} {k k' k'' : IntKind} {i j l : Int} (hx : ev t x = .p (.int k i)) (hy : ev t y = .p (.int k' j)) (hz : ev t z = .p (.int k'' l)) (hd : dok N d = true)
  (K : JO P N ops Q os (t.putO d (.p (.int k (imin (imin i j) l)))) L) : JO P N ops Q (⟨d, .call { callee := .builtin .min, args := #[x, y, z], argTypes := ts }, ty, pos, af, none⟩ :: os) t L :=
 JO.still hd (fun a w s => by
  have h1 := s.ev x
  have h2 := s.ev y
  have h3 := s.ev z
  rw [hx] at h1
  rw [hy] at h2
  rw [hz] at h3
  simp only [VS] at h1 h2 h3
  exact ⟨.int k (imin (imin i j) l), by simp [execOp, h1, h2, h3, resolve, invoke, builtin, Builtin.min_, Builtin.min2, imin]; rfl, by simp [VS]⟩) K
theorem JO.max2 {ts : Array TypeId} {x y : Operand} {k k' : IntKind} {i j : Int} (hx : ev t x = .p (.int k i)) (hy : ev t y = .p (.int k' j)) (hd : dok N d = true)
  (K : JO P N ops Q os (t.putO d (.p (.int k (imax i j)))) L) : JO P N ops Q (⟨d, .call { callee := .builtin .max, args := #[x, y], argTypes := ts }, ty, pos, af, none⟩ :: os) t L :=
 JO.still hd (fun a w s => by
  have h1 := s.ev x
  have h2 := s.ev y
  rw [hx] at h1
  rw [hy] at h2
  simp only [VS] at h1 h2
  exact ⟨.int k (imax i j), by simp [execOp, h1, h2, resolve, invoke, builtin, Builtin.max_, Builtin.max2, imax], by simp [VS]⟩) K
def slen : AV → Option Nat
 | .sl _ _ _ n => some n
 | .fz n _ => some n
 | .p (.slice none n _) => some n
 | _ => none
theorem slen_run {L : GH} {w : World} {v : AV} {n : Nat} {x : Value} (h : slen v = some n) (hv : VS L w v x) : ∃ a c, x = .slice a n c := by
 unfold slen at h
 split at h
 ·obtain rfl := Option.some.inj h
  simp only [VS] at hv
  obtain ⟨a, cap, rfl, _⟩ := hv
  exact ⟨a, cap, rfl⟩
 ·obtain rfl := Option.some.inj h
  simp only [VS] at hv
  obtain ⟨a, cap, vs, rfl, _⟩ := hv
  exact ⟨a, cap, rfl⟩
 ·obtain rfl := Option.some.inj h
  exact ⟨_, _, by simpa [VS] using hv⟩
 ·cases h
theorem JO.lenSl {T e : TypeId} {x : Operand} {n : Nat} (hT : P.underlying T = some (.slice e)) (hx : slen (ev t x) = some n) (hd : dok N d = true)
  (K : JO P N ops Q os (t.putO d (.p (.int .i64 n))) L) : JO P N ops Q (⟨d, .call { callee := .builtin .len, args := #[x], argTypes := #[T] }, ty, pos, af, none⟩ :: os) t L :=
 JO.still hd (fun a w s => by
  obtain ⟨ad, c, h1⟩ := slen_run hx (s.ev x)
  exact ⟨goInt n, by simp [execOp, h1, resolve, invoke, builtin, Builtin.len_, run_underlying hT], by simp [VS, goInt]⟩) K
def sbyte (b : ByteArray) (i : Int) : Int := ((b.data.toList.getD i.toNat 0).toNat : Int)
theorem JO.idxStr {T : TypeId} {x i : Operand} {b : ByteArray} {k : IntKind} {j : Int} (hT : P.underlying T = some .string) (hx : ev t x = .p (.string b)) (hi : ev t i = .p (.int k j)) (hd : dok N d = true)
  (h0 : 0 ≤ j) (h1 : j < b.size) (K : JO P N ops Q os (t.putO d (.p (.int .u8 (sbyte b j)))) L) : JO P N ops Q (⟨d, .index T x i, ty, pos, af, none⟩ :: os) t L :=
 JO.still hd (fun a w s => by
  have e1 := s.ev x
  have e2 := s.ev i
  rw [hx] at e1
  rw [hi] at e2
  simp only [VS] at e1 e2
  have hlt : j.toNat < b.size := by omega
  have hb : b[j.toNat]? = some (b[j.toNat]'hlt) := by simp [hlt]
  refine ⟨.int .u8 (b[j.toNat]'hlt).toNat, by simp [execOp, e1, e2, Instr.index, asIntOf, run_underlying hT, h0, hb], ?_⟩
  simp only [VS, sbyte]
  have hl : j.toNat < b.data.toList.length := by simpa using hlt
  rw [List.getD_eq_getElem?_getD, List.getElem?_eq_getElem hl]
  rfl) K
theorem run_bound {P : Program} {w : World} {k : IntKind} {i : Int} {y : Nat} {c : BoundsCode} (h0 : 0 ≤ i) (h1 : i ≤ y) : (Instr.sliceBound (.int k i) y c).run P w = .ok i.toNat w := by
 simp [Instr.sliceBound, asIntOf, h0, h1]
theorem JO.cutStr {T : TypeId} {x : Operand} {lo hi : Option Operand} {b : ByteArray} {l h : Int} (hT : P.underlying T = some .string) (hx : ev t x = .p (.string b))
  (hl : match lo with | some i => ∃ k, ev t i = .p (.int k l) | none => l = 0) (hh : match hi with | some i => ∃ k, ev t i = .p (.int k h) | none => h = b.size) (hd : dok N d = true)
  (h0 : 0 ≤ l) (h1 : l ≤ h) (h2 : h ≤ b.size) (K : JO P N ops Q os (t.putO d (.p (.string (b.extract l.toNat h.toNat)))) L) : JO P N ops Q (⟨d, .slice T x lo hi none, ty, pos, af, none⟩ :: os) t L :=
 JO.still hd (fun a w s => by
  have e1 := s.ev x
  rw [hx] at e1
  simp only [VS] at e1
  refine ⟨.string (b.extract l.toNat h.toNat), ?_, by simp [VS]⟩
  have hc : ((h.toNat : Nat) : Int) = h := by omega
  cases lo with
  | none =>
   simp only at hl
   subst hl
   cases hi with
   | none =>
    simp only at hh
    subst hh
    simp [execOp, e1, Instr.sliceAt, run_underlying hT, Instr.slice, Instr.sliceBounds]
   | some i =>
    obtain ⟨k, hh⟩ := hh
    have e2 := s.ev i
    rw [hh] at e2
    simp only [VS] at e2
    simp [execOp, e1, e2, Instr.sliceAt, run_underlying hT, Instr.slice, Instr.sliceBounds, run_bound (show 0 ≤ h by omega) h2]
  | some j =>
   obtain ⟨k', hl⟩ := hl
   have e3 := s.ev j
   rw [hl] at e3
   simp only [VS] at e3
   cases hi with
   | none =>
    simp only at hh
    subst hh
    simp [execOp, e1, e3, Instr.sliceAt, run_underlying hT, Instr.slice, Instr.sliceBounds, run_bound h0 h1]
   | some i =>
    obtain ⟨k, hh⟩ := hh
    have e2 := s.ev i
    rw [hh] at e2
    simp only [VS] at e2
    simp [execOp, e1, e2, e3, Instr.sliceAt, run_underlying hT, Instr.slice, Instr.sliceBounds, run_bound (show 0 ≤ h by omega) h2, run_bound (y := h.toNat) h0 (by omega)]) K
theorem JO.cat {T T' : TypeId} {x y : Operand} {a b : ByteArray} (hx : ev t x = .p (.string a)) (hy : ev t y = .p (.string b)) (hd : dok N d = true) (hn : a.size + b.size ≤ 9223372036854775807)
  (K : JO P N ops Q os (t.putO d (.p (.string (a ++ b)))) L) : JO P N ops Q (⟨d, .binOp .add T x y T', ty, pos, af, none⟩ :: os) t L :=
 JO.still hd (fun c w s => by
  have e1 := s.ev x
  have e2 := s.ev y
  rw [hx] at e1
  rw [hy] at e2
  simp only [VS] at e1 e2
  refine ⟨.string (a ++ b), ?_, by simp [VS]⟩
  have hg : (eqGuard .add T x y (.string a) (.string b)).run P w = .ok () w := by simp [eqGuard]
  have hlt : ¬ (((a.size + b.size : Nat) : Int) > IntKind.i64.max) := by simp [IntKind.max, IntKind.signed, IntKind.bits]; omega
  simp only [execOp, e1, e2, Sem.run_bind, hg, Result.andThen_ok, binOp, Op.stringOp]
  rw [if_neg hlt]
  simp) K
theorem equalIn_bool {P : Program} {T : TypeId} (hT : P.underlying T = some .bool) (a b : Bool) (w : World) (n : Nat) : (Op.equalIn (n + 1) T (.bool a) (.bool b)).run P w = .ok (a == b) w := by
 simp only [Op.equalIn, Sem.run_bind, run_underlying hT, Result.andThen_ok]
 rfl
theorem equal_bool {P : Program} {T : TypeId} (hT : P.underlying T = some .bool) (a b : Bool) (w : World) : (Op.equal T (.bool a) (.bool b)).run P w = .ok (a == b) w := equalIn_bool hT a b w 9999
theorem JO.eqBool {T T' : TypeId} {x y : Operand} {a b : Bool} (hT : P.underlying T = some .bool) (hx : ev t x = .p (.bool a)) (hy : ev t y = .p (.bool b)) (hd : dok N d = true)
  (K : JO P N ops Q os (t.putO d (.p (.bool (a == b)))) L) : JO P N ops Q (⟨d, .binOp .eql T x y T', ty, pos, af, none⟩ :: os) t L :=
 JO.still hd (fun c w s => by
  have e1 := s.ev x
  have e2 := s.ev y
  rw [hx] at e1
  rw [hy] at e2
  simp only [VS] at e1 e2
  refine ⟨.bool (a == b), ?_, by simp [VS]⟩
  have hg : ∀ o, (eqGuard o T x y (.bool a) (.bool b)).run P w = .ok () w := by intro o; unfold eqGuard; split <;> simp
  simp [execOp, e1, e2, hg, binOp, equal_bool hT]) K
theorem JO.neBool {T T' : TypeId} {x y : Operand} {a b : Bool} (hT : P.underlying T = some .bool) (hx : ev t x = .p (.bool a)) (hy : ev t y = .p (.bool b)) (hd : dok N d = true)
  (K : JO P N ops Q os (t.putO d (.p (.bool (!(a == b))))) L) : JO P N ops Q (⟨d, .binOp .neq T x y T', ty, pos, af, none⟩ :: os) t L :=
 JO.still hd (fun c w s => by
  have e1 := s.ev x
  have e2 := s.ev y
  rw [hx] at e1
  rw [hy] at e2
  simp only [VS] at e1 e2
  refine ⟨.bool (!(a == b)), ?_, by simp [VS]⟩
  have hg : ∀ o, (eqGuard o T x y (.bool a) (.bool b)).run P w = .ok () w := by intro o; unfold eqGuard; split <;> simp
  simp [execOp, e1, e2, hg, binOp, equal_bool hT]) K
end
def JF (P : Program) (f : FuncId) (args : List AV) (L : GH) (R : AV → GH → Prop) : Prop :=
 ∀ (w : World) (xs : List Value), Glb L w → VSL L w args xs → (∀ g r, L g = some r → RowR L w g r) →
  Calls P f xs.toArray w fun e w' => ∃ v x L', e = .returned x ∧ VS L' w' v x ∧ (∀ g r, L' g = some r → RowR L' w' g r) ∧ Ext L w L' w' ∧ R v L'
theorem JF.mono {P : Program} {f : FuncId} {args : List AV} {L : GH} {R R' : AV → GH → Prop} (h : JF P f args L R) (hr : ∀ v L', R v L' → R' v L') : JF P f args L R' :=
 fun w xs hg hv hw => (h w xs hg hv hw).mono fun e w' ⟨v, x, L', he, hv, hw, hx, r⟩ => ⟨v, x, L', he, hv, hw, hx, hr _ _ r⟩
def tm0 (args : List AV) : TM := fun i => args.getD i .top
def outs : List ResultVar → TM → Option (List AV)
 | [], _ => some []
 | .tmp s :: rs, t => (outs rs t).map (t s :: ·)
 | .cell .. :: _, _ => none
def out1 : List AV → AV
 | [v] => v
 | vs => .tup vs
def JQ (rs : List ResultVar) (R : AV → GH → Prop) : Exit → TM → GH → Prop
 | .normal, t, L => ∃ vs, outs rs t = some vs ∧ R (out1 vs) L
 | .ret, t, L => ∃ vs, outs rs t = some vs ∧ R (out1 vs) L
 | _, _, _ => False
def readOut (a : Act) : ResultVar → Sem Value
 | .tmp t => pure (a.tmps.getD t undef)
 | .cell c ty => do loadVar ty (← asAddr (a.tmps.getD c undef))
theorem outs_run {P : Program} {N : Nat} {L : GH} {a : Act} {w : World} (t : TM) (s : Sim N t L a w) : ∀ (rs : List ResultVar) (vs : List AV), outs rs t = some vs →
  ∃ xs : List Value, (rs.mapM (readOut a)).run P w = .ok xs w ∧ VSL L w vs xs
 | [], vs, h => by
  simp only [outs, Option.some.injEq] at h
  subst h
  exact ⟨[], by simp, by simp [VSL]⟩
 | .tmp i :: rs, vs, h => by
  simp only [outs] at h
  cases ho : outs rs t with
  | none => simp [ho] at h
  | some us =>
   simp only [ho, Option.map_some, Option.some.injEq] at h
   subst h
   obtain ⟨xs, hx, hv⟩ := outs_run (P := P) t s rs us ho
   exact ⟨a.tmps.getD i undef :: xs, by simp [readOut, hx], by simp only [VSL]; exact ⟨s.tm i, hv⟩⟩
 | .cell .. :: rs, vs, h => by simp [outs] at h
theorem VSL.getD {L : GH} {w : World} : ∀ {cs : List AV} {xs : List Value}, VSL L w cs xs → ∀ i, i < cs.length → VS L w (cs.getD i .top) (xs.getD i undef) := by
 intro cs xs h i hi
 obtain ⟨v, hv, hs⟩ := h.get i (cs[i]) (by simp [hi])
 rw [List.getD_eq_getElem?_getD, List.getD_eq_getElem?_getD, hv, List.getElem?_eq_getElem hi]
 exact hs
theorem JF.body {P : Program} {f : FuncId} {fn : Func} {c : Code} {args : List AV} {L : GH} {R : AV → GH → Prop} (hf : P.funcs[f]? = some fn) (hb : fn.body = some c) (hn : args.length ≤ fn.ntmps)
  (h : J P fn.ntmps c (JQ fn.results.toList R) (tm0 args) L) : JF P f args L R := by
 intro w xs hglb hv hrows
 refine calls_of_wp hf hb ?_
 have hl := hv.length
 have s : Sim fn.ntmps (tm0 args) L { tmps := xs.toArray ++ Array.replicate (fn.ntmps - xs.toArray.size) undef, defers := [] } w := by
  refine ⟨fun i => ?_, hrows, by simp; omega, rfl, hglb⟩
  unfold tm0
  by_cases hi : i < args.length
  ·have := hv.getD i hi
   have e : (xs.toArray ++ Array.replicate (fn.ntmps - xs.toArray.size) undef).getD i undef = xs.getD i undef := by
    have hx : i < xs.length := by omega
    simp [Array.getD_eq_getD_getElem?, Array.getElem?_append, hx, List.getD_eq_getElem?_getD]
   show VS L w _ ((xs.toArray ++ Array.replicate (fn.ntmps - xs.toArray.size) undef).getD i undef)
   rw [e]
   exact this
  ·have e : args.getD i .top = .top := by simp [List.getD_eq_getElem?_getD, List.getElem?_eq_none (Nat.le_of_not_lt hi)]
   rw [e]
   simp [VS]
 refine wp_mono (h.wp L w _ w (Ext.refl _ _) s) ?_
 rintro e a' w' ⟨t', L', s', x, q⟩
 have fin : (∃ vs, outs fn.results.toList t' = some vs ∧ R (out1 vs) L') → a'.defers = [] ∧ ∃ v, (results fn a'.tmps).run P w' = .ok v w' ∧
   ∃ v' x' L'', Ending.returned v = .returned x' ∧ VS L'' w' v' x' ∧ (∀ g r, L'' g = some r → RowR L'' w' g r) ∧ Ext L w L'' w' ∧ R v' L'' := by
  rintro ⟨vs, ho, hr⟩
  obtain ⟨us, hu, hv⟩ := outs_run (P := P) t' s' _ _ ho
  refine ⟨s'.df.1, if h : us.toArray.size = 1 then us.toArray[0] else .tuple us.toArray, ?_, out1 vs, _, L', rfl, ?_, s'.rows, x, hr⟩
  ·have hm : (fn.results.mapM (readOut a')).run P w' = .ok us.toArray w' := by
    rw [Array.mapM_eq_mapM_toList, Sem.run_map, hu]
    simp
   have e : results fn a'.tmps = (do let vs ← fn.results.mapM (readOut a'); pure (if h : vs.size = 1 then vs[0] else .tuple vs)) := by
    unfold results
    congr 2
   rw [e, Sem.run_bind, hm]
   rfl
  ·have hl := hv.length
   match vs, us, hv, hl with
   | [v], [u], hv, _ =>
    simp only [VSL] at hv
    simpa [out1] using hv.1
   | [], [], hv, _ => simpa [out1, VS] using hv
   | v :: v2 :: vs, u :: u2 :: us, hv, _ =>
    have : ¬ (u :: u2 :: us).toArray.size = 1 := by simp
    rw [dif_neg this]
    simp only [out1, VS]
    exact ⟨_, rfl, hv⟩
 cases e with
 | normal => exact fin q
 | ret => exact fin q
 | exit id => exact q.elim
 | goto l => exact q.elim
 | panic ch => exact q.elim
 | outgrown => exact q.elim
section
variable {P : Program} {N : Nat} {ops : Array Oper} {Q : Exit → TM → GH → Prop} {d : Option Nat} {ty : TypeId} {pos : String} {af : Array Edge} {os : List Oper} {t : TM} {L : GH}
theorem evs {a : Act} {w : World} (s : Sim N t L a w) : ∀ xs : List Operand, VSL L w (xs.map (ev t)) (xs.map a.eval)
 | [] => by simp [VSL]
 | x :: xs => by simp only [List.map_cons, VSL]; exact ⟨s.ev x, evs s xs⟩
theorem run_callFunc {P : Program} {f : FuncId} {fn : Func} {c : Code} (hf : P.funcs[f]? = some fn) (hb : fn.body = some c) (hr : (fn.name == "runtime.NumGoroutine") = false) (args : Array Value) (w : World) :
  (callFunc f args).run P w = .ok (.enter f args) w := by
 have hr' : ¬ (fn.name = "runtime.NumGoroutine") := by simpa using hr
 simp [callFunc, hf, hb, hr']
theorem JO.call {f : FuncId} {fn : Func} {c : Code} {xs : List Operand} {tys : Array TypeId} {R : AV → GH → Prop} (hf : P.funcs[f]? = some fn) (hb : fn.body = some c) (hr : (fn.name == "runtime.NumGoroutine") = false)
  (hd : dok N d = true) (h : JF P f (xs.map (ev t)) L R) (K : ∀ v L', R v L' → JO P N ops Q os (t.putO d v) L') :
  JO P N ops Q (⟨d, .call { callee := .value (.func f), args := xs.toArray, argTypes := tys }, ty, pos, af, none⟩ :: os) t L := by
 refine JO.op rfl (fun _ => t) fun ro L0 w0 a w he hs => ?_
 have hx : (execOp a.eval ⟨d, .call { callee := .value (.func f), args := xs.toArray, argTypes := tys }, ty, pos, af, none⟩).run P w = .ok (.enter f (xs.map a.eval).toArray) w := by
  simp [execOp, resolve, Act.eval, Deferred.ofValue, invoke, run_callFunc hf hb hr]
 unfold Oper.wp
 rw [hx]
 simp only [Oper.upon_enter]
 refine (h w (xs.map a.eval) hs.df.2 (evs hs xs) hs.rows).mono ?_
 rintro e w' ⟨v, x, L', rfl, hv, hrows, hx, r⟩
 show wpListIn _ _ _ _ _ _ _ _
 refine K v L' r ro L0 w0 _ w' (he.trans hx) ?_
 have s' := hs.ext hx hrows
 cases d with
 | none => exact s'
 | some i => exact s'.put i (dok_lt hd i rfl) hv
end
end Go.Proofs.YtaglpckihegmoaaDoorAv
namespace Go.Proofs.YtaglpckihegmoaaDoorAv
open Go Go.RowKit
def upd (L : GH) (g : Nat) (r : Row) : GH := fun b => if b = g then some r else L b
def del (L : GH) (g : Nat) : GH := fun b => if b = g then none else L b
theorem upd_same (L : GH) (g : Nat) (r : Row) : upd L g r g = some r := by simp [upd]
theorem upd_ne (L : GH) (g b : Nat) (r : Row) (h : b ≠ g) : upd L g r b = L b := by simp [upd, h]
theorem upd_comm (L : GH) (g h : Nat) (r s : Row) (hn : g ≠ h) : upd (upd L g r) h s = upd (upd L h s) g r := by
 funext b; simp only [upd]; split <;> split <;> simp_all
theorem upd_none {L : GH} {g b : Nat} {r : Row} (h : upd L g r b = none) : b ≠ g ∧ L b = none := by
 unfold upd at h
 split at h
 ·cases h
 ·rename_i hb; exact ⟨hb, h⟩
theorem RowR.lt {L : GH} {w : World} {g : Nat} {r : Row} (h : RowR L w g r) : g < w.heap.size := by
 unfold RowR at h
 split at h
 ·obtain ⟨c, fr, vs, hc, _⟩ := h
  exact (Array.getElem?_eq_some_iff.1 hc).1
 ·exact (Array.getElem?_eq_some_iff.1 h.2).1
 ·obtain ⟨-, es, clock, h2, -⟩ := h
  exact (Array.getElem?_eq_some_iff.1 h2).1
 ·obtain ⟨-, -, es, clock, seen, h2, -⟩ := h
  exact (Array.getElem?_eq_some_iff.1 h2).1
 ·exact (Array.getElem?_eq_some_iff.1 h.2).1
theorem fresh_of {L : GH} {w : World} (hr : ∀ g r, L g = some r → RowR L w g r) : L w.heap.size = none := by
 cases h : L w.heap.size with
 | none => rfl
 | some r => exact absurd (hr _ r h).lt (Nat.lt_irrefl _)
structure Push (w w2 : World) (o : Obj) : Prop where
 heap : w2.heap = w.heap.push o
 os : w2.os = w.os
 tape : w2.tape = w.tape
 output : w2.output = w.output
theorem Push.alloc (w : World) (o : Obj) : Push w (w.alloc o) o := ⟨rfl, rfl, rfl, rfl⟩
theorem Push.drew (w : World) (o : Obj) : Push w (w.drew.alloc o) o := ⟨rfl, rfl, rfl, rfl⟩
theorem Push.new {w w2 : World} {o : Obj} (h : Push w w2 o) : w2.heap[w.heap.size]? = some o := by rw [h.heap]; simp
theorem Push.old {w w2 : World} {o : Obj} (h : Push w w2 o) {b : Nat} (hb : b < w.heap.size) : w2.heap[b]? = w.heap[b]? := by rw [h.heap, Array.getElem?_push, if_neg (Nat.ne_of_lt hb)]
theorem Push.ext {w w2 : World} {o : Obj} (h : Push w w2 o) (L : GH) : Ext L w L w2 :=
 ⟨h.os, h.tape, h.output, by rw [h.heap]; simp, fun b hb _ => h.old hb, fun _ _ h => h, fun b c e fr hc => by
  have hb : b < w.heap.size := (Array.getElem?_eq_some_iff.1 hc).1
  exact ⟨c, e, fr, by rw [h.old hb]; exact hc, rfl⟩⟩
theorem Ext.tellNew {L : GH} {w : World} {g : Nat} (r : Row) {w' : World} (h : Ext L w L w') (hg : w.heap.size ≤ g) : Ext L w (upd L g r) w' :=
 ⟨h.os, h.tape, h.output, h.size, h.keep, fun b hb hl => by rw [upd_ne _ _ _ _ (by omega)]; exact hl, h.shape⟩
theorem Push.ext' {w w2 : World} {o : Obj} (h : Push w w2 o) (L : GH) (r : Row) : Ext L w (upd L w.heap.size r) w2 := (h.ext L).tellNew r (Nat.le_refl _)
theorem Push.rows0 {w w2 : World} {o : Obj} (h : Push w w2 o) {L : GH} (hr : ∀ g r, L g = some r → RowR L w g r) : ∀ g r, L g = some r → RowR L w2 g r := fun g r hg =>
 (hr g r hg).ext (h.ext L) (h.old (hr g r hg).lt)
theorem Push.rows {w w2 : World} {e : TypeId} {fr : Nat × Nat} {vs rest : List Value} (h : Push w w2 (.cells (vs ++ rest).toArray e fr)) {L : GH} (hr : ∀ g r, L g = some r → RowR L w g r) (ap : Bool) (cs : List AV)
  (hap : ap = true → fr = (0, 0)) (hfr : ∀ o, o < (vs ++ rest).length → ¬ (fr.1 ≤ o ∧ o < fr.2)) (hv : VSL L w cs vs) (h1 : ∀ v ∈ vs, v.oneCell' = true) :
  ∀ g r, upd L w.heap.size ⟨e, ap, cs⟩ g = some r → RowR (upd L w.heap.size ⟨e, ap, cs⟩) w2 g r := by
 intro g r hg
 have hx := h.ext' L ⟨e, ap, cs⟩
 by_cases hgs : g = w.heap.size
 ·subst hgs
  rw [upd_same] at hg
  obtain rfl := Option.some.inj hg
  have hl := hv.length
  refine ⟨(vs ++ rest).toArray, fr, vs, h.new, fun hh => hap (by injection hh), fun o ho => hfr o (by simpa using ho), by simp; omega, ?_, VSL.ext hx _ _ hv, h1⟩
  simp [hl]
 ·rw [upd_ne _ _ _ _ hgs] at hg
  have k := hr g r hg
  exact k.ext hx (h.old k.lt)
section
variable {P : Program} {N : Nat} {ops : Array Oper} {Q : Exit → TM → GH → Prop} {d : Option Nat} {ty : TypeId} {pos : String} {af : Array Edge} {os : List Oper} {t : TM} {L : GH}
theorem JO.new {op : Op} {e : TypeId} {ap : Bool} {cs : List AV} (mk : Nat → AV) (hd : dok N d = true)
  (h : ∀ a w, Sim N t L a w → ∃ w2 fr vs rest x, Push w w2 (.cells (vs ++ rest).toArray e fr) ∧ (ap = true → fr = (0, 0)) ∧ (∀ o, o < (vs ++ rest).length → ¬ (fr.1 ≤ o ∧ o < fr.2)) ∧
   (execOp a.eval ⟨d, op, ty, pos, af, none⟩).run P w = .ok (.value x) w2 ∧ VSL L w cs vs ∧ (∀ v ∈ vs, v.oneCell' = true) ∧ ∀ L', VS L' w2 (mk w.heap.size) x)
  (K : ∀ g, L g = none → JO P N ops Q os (t.putO d (mk g)) (upd L g ⟨e, ap, cs⟩)) : JO P N ops Q (⟨d, op, ty, pos, af, none⟩ :: os) t L :=
 JO.value (dok_lt hd) fun a w s => by
  obtain ⟨w2, fr, vs, rest, x, hp, hap, hfr, hr, hv, h1, hm⟩ := h a w s
  exact ⟨x, w2, mk w.heap.size, upd L w.heap.size ⟨e, ap, cs⟩, hr, hp.ext' L _, hp.rows s.rows ap cs hap hfr hv h1, hm _, K _ (fresh_of s.rows)⟩
def AV.cells : AV → List AV
 | .agg cs => cs
 | v => [v]
def AV.one : AV → Bool
 | .p v => v.oneCell'
 | .agg _ => false
 | .tup _ => false
 | .top => false
 | _ => true
theorem AV.one_cell {L : GH} {w : World} {v : AV} {x : Value} (h : v.one = true) (hv : VS L w v x) : x.oneCell' = true := by
 cases v <;> simp only [AV.one, reduceCtorEq] at h <;> simp only [VS] at hv
 ·rw [hv]; exact h
 ·obtain ⟨a, c, rfl, _⟩ := hv; rfl
 ·rw [hv]; rfl
 ·obtain ⟨a, c, vs, rfl, _⟩ := hv; rfl
 ·obtain ⟨a, vs, rfl, _⟩ := hv; rfl
 ·obtain ⟨a, vs, rfl, _⟩ := hv; rfl
 ·obtain ⟨y, rfl, _⟩ := hv; rfl
 ·obtain ⟨vs, rfl, _⟩ := hv; rfl
def ones (cs : List AV) : Bool := cs.all AV.one
theorem ones_cells {L : GH} {w : World} : ∀ {cs : List AV} {vs : List Value}, ones cs = true → VSL L w cs vs → ∀ v ∈ vs, v.oneCell' = true
 | [], [], _, _ => by simp
 | c :: cs, v :: vs, h, hv => by
  simp only [VSL] at hv
  simp only [ones, List.all_cons, Bool.and_eq_true] at h
  intro u hu
  rcases List.mem_cons.1 hu with rfl | hu
  ·exact AV.one_cell h.1 hv.1
  ·exact ones_cells (cs := cs) h.2 hv.2 u hu
 | [], _ :: _, _, hv => by simp [VSL] at hv
 | _ :: _, [], _, hv => by simp [VSL] at hv
theorem cells_of {L : GH} {w : World} {v : AV} {x : Value} (hv : VS L w v x) (h : ones v.cells = true) : VSL L w v.cells x.cells.toList := by
 cases v
 case agg cs =>
  simp only [VS] at hv
  obtain ⟨vs, rfl, hv⟩ := hv
  simpa [AV.cells, Value.cells] using hv
 all_goals
  have h1 : x.oneCell' = true := AV.one_cell (by simpa [ones, AV.cells] using h) hv
  have h2 : x.cells = #[x] := by cases x <;> first | rfl | simp [Value.oneCell'] at h1
  rw [h2]
  simp only [AV.cells, VSL]
  exact ⟨hv, trivial⟩
theorem JO.box {T : TypeId} {x : Operand} {cs : List AV} (hx : (ev t x).cells = cs) (h1 : ones cs = true) (hd : dok N d = true)
  (K : ∀ g, L g = none → JO P N ops Q os (t.putO d (.ptr g 0)) (upd L g ⟨T, true, cs⟩)) : JO P N ops Q (⟨d, .box T x, ty, pos, af, none⟩ :: os) t L :=
 JO.new (fun g => .ptr g 0) hd (fun a w s => by
  subst hx
  have hv := cells_of (s.ev x) h1
  refine ⟨w.alloc (.cells (a.eval x).cells T), (0, 0), (a.eval x).cells.toList, [], .pointer (some ⟨w.heap.size, 0, none⟩), ?_, fun _ => rfl, fun o _ => by simp, ?_, hv, ones_cells h1 hv, fun L' => by simp [VS]⟩
  ·simpa using Push.alloc w (.cells (a.eval x).cells T)
  ·simp [execOp, Instr.box, newVar, newRow]) K
theorem JO.alloc {T : TypeId} {z : Value} {cs : List AV} (hz : (P.info? T).map (fun i => (i.zero, i.size, i.bytes)) = some (some z, cs.length, 0 + ((P.info? T).map (·.bytes)).getD 0)) (hc : z.cells.toList.map AV.p = cs)
  (h1 : ones cs = true) (hd : dok N d = true)
  (K : ∀ g, L g = none → JO P N ops Q os (t.putO d (.ptr g 0)) (upd L g ⟨T, true, cs⟩)) : JO P N ops Q (⟨d, .alloc T, ty, pos, af, none⟩ :: os) t L :=
 JO.new (fun g => .ptr g 0) hd (fun a w s => by
  have hv : VSL L w cs z.cells.toList := by
   rw [← hc]
   generalize z.cells.toList = l
   induction l with
   | nil => simp [VSL]
   | cons x l ih => simp only [List.map_cons, VSL, VS]; exact ⟨trivial, ih⟩
  cases hi : P.info? T with
  | none => simp [hi] at hz
  | some i =>
   have hzz : i.zero = some z := by simpa [hi] using congrArg (fun o => o.map (·.1)) hz
   refine ⟨w.alloc (.cells z.cells T), (0, 0), z.cells.toList, [], .pointer (some ⟨w.heap.size, 0, none⟩), ?_, fun _ => rfl, fun o _ => by simp, ?_, hv, ones_cells h1 hv, fun L' => by simp [VS]⟩
   ·simpa using Push.alloc w (.cells z.cells T)
   ·simp [execOp, Instr.alloc, zeroValue, typeInfo, hi, hzz, newVar, newRow]) K
theorem add_plain (g o n : Nat) : (⟨g, o, none⟩ : Addr).add n = ⟨g, o + n, none⟩ := Addr.add_lit g o n
theorem JO.idxSl {T e : TypeId} {x i : Operand} {g sz off n : Nat} {k : IntKind} {j : Int} {ti : TypeInfo} (hT : P.underlying T = some (.slice e)) (hi : P.info? e = some ti) (hs : ti.size = sz)
  (hx : ev t x = .sl g sz off n) (hj : ev t i = .p (.int k j)) (hd : dok N d = true) (h0 : 0 ≤ j) (h1 : j < n)
  (K : JO P N ops Q os (t.putO d (.ptr g (off + j.toNat * sz))) L) : JO P N ops Q (⟨d, .indexAddr T x i, ty, pos, af, none⟩ :: os) t L :=
 JO.still hd (fun a w s => by
  have e1 := s.ev x
  have e2 := s.ev i
  rw [hx] at e1
  rw [hj] at e2
  simp only [VS] at e1 e2
  obtain ⟨ad, cap, e1, hn, hc⟩ := e1
  rcases hc with hc | ⟨rfl, _⟩
  ·omega
  ·refine ⟨.pointer (some ⟨g, off + j.toNat * sz, none⟩), ?_, by simp [VS]⟩
   simp [execOp, e1, e2, Instr.indexAt, asIntOf, run_underlying hT, h0, h1, sizeOf, typeInfo, hi, hs, add_plain]) K
theorem CellsAt.drop {L : GH} {w : World} {ad : Addr} {vs : List Value} (h : CellsAt L w (some ad) vs) (n : Nat) : CellsAt L w (some (ad.add n)) (vs.drop n) := by
 rcases h with rfl | ⟨a, ha, hl, h1, hc⟩
 ·exact .inl (by simp)
 ·obtain rfl := Option.some.inj ha
  refine .inr ⟨ad.add n, rfl, ?_, fun v hv => h1 v (List.mem_of_mem_drop hv), fun i v hi => ?_⟩
  ·have : (ad.add n).block = ad.block := by unfold Addr.add; split <;> rfl
   rw [this]; exact hl
  ·rw [Addr.add_add]
   exact hc (n + i) v (by simpa [List.getElem?_drop] using hi)
theorem JO.idxFz {T e : TypeId} {x i : Operand} {n : Nat} {cs : List AV} {k : IntKind} {j : Int} {ti : TypeInfo} (hT : P.underlying T = some (.slice e)) (hi : P.info? e = some ti)
  (hx : ev t x = .fz n cs) (hj : ev t i = .p (.int k j)) (hd : dok N d = true) (h0 : 0 ≤ j) (h1 : j < n) (hc : cs ≠ [])
  (K : JO P N ops Q os (t.putO d (.fp (cs.drop (j.toNat * ti.size)))) L) : JO P N ops Q (⟨d, .indexAddr T x i, ty, pos, af, none⟩ :: os) t L :=
 JO.still hd (fun a w s => by
  have e1 := s.ev x
  have e2 := s.ev i
  rw [hx] at e1
  rw [hj] at e2
  simp only [VS] at e1 e2
  obtain ⟨ad, cap, vs, e1, hn, hca, hv⟩ := e1
  have hne : vs ≠ [] := by
   rintro rfl
   have := hv.length
   simp at this
   exact hc this
  obtain ⟨b, rfl⟩ : ∃ b, ad = some b := by
   rcases hca with h | ⟨b, h, _⟩
   ·exact absurd h hne
   ·exact ⟨b, h⟩
  refine ⟨.pointer (some (b.add (j.toNat * ti.size))), ?_, ?_⟩
  ·simp [execOp, e1, e2, Instr.indexAt, asIntOf, run_underlying hT, h0, h1, sizeOf, typeInfo, hi]
  ·simp only [VS]
   exact ⟨_, _, rfl, hca.drop _, hv.drop _⟩) K
theorem JO.ldOwn {T : TypeId} {x : Operand} {g off : Nat} {r : Row} {v : AV} {u : TypeDesc} (hT : P.underlying T = some u) (ha : (match u with | .struct _ | .array _ _ => true | _ => false) = false)
  (hx : ev t x = .ptr g off) (hr : L g = some r) (hc : r.cs[off]? = some v) (hd : dok N d = true) (K : JO P N ops Q os (t.putO d v) L) : JO P N ops Q (⟨d, .load T x, ty, pos, af, none⟩ :: os) t L :=
 JO.still hd (fun a w s => by
  have e1 := s.ev x
  rw [hx] at e1
  simp only [VS] at e1
  obtain ⟨c, fr, vs, hh, _, _, hle, hvs, hv, _⟩ := (s.rows g r hr).cg hc
  obtain ⟨z, hz, hvz⟩ := hv.get off v hc
  have hcell : w.cell? ⟨g, off, none⟩ = some z := by
   have hlt : off < r.cs.length := (List.getElem?_eq_some_iff.1 hc).1
   rw [hvs, List.getElem?_take, if_pos hlt] at hz
   simp only [World.cell?, hh]
   simpa using hz
  refine ⟨z, ?_, hvz⟩
  have hagg : (isAgg T).run P w = .ok false w := by
   unfold isAgg
   simp only [Sem.run_bind, run_underlying hT, Result.andThen_ok]
   cases u <;> simp_all
  simp [execOp, e1, Instr.loadAt, Instr.sureAddr, loadVar, hagg, hcell]) K
theorem JO.ldFp {T : TypeId} {x : Operand} {cs : List AV} {v : AV} {u : TypeDesc} (hT : P.underlying T = some u) (ha : (match u with | .struct _ | .array _ _ => true | _ => false) = false)
  (hx : ev t x = .fp cs) (hc : cs[0]? = some v) (hd : dok N d = true) (K : JO P N ops Q os (t.putO d v) L) : JO P N ops Q (⟨d, .load T x, ty, pos, af, none⟩ :: os) t L :=
 JO.still hd (fun a w s => by
  have e1 := s.ev x
  rw [hx] at e1
  simp only [VS] at e1
  obtain ⟨ad, vs, e1, hca, hv⟩ := e1
  obtain ⟨z, hz, hvz⟩ := hv.get 0 v hc
  have hcell : w.cell? ad = some z := by
   rcases hca with rfl | ⟨b, hb, _, _, hc⟩
   ·simp at hz
   ·obtain rfl := Option.some.inj hb
    exact hc 0 z hz
  refine ⟨z, ?_, hvz⟩
  have hagg : (isAgg T).run P w = .ok false w := by
   unfold isAgg
   simp only [Sem.run_bind, run_underlying hT, Result.andThen_ok]
   cases u <;> simp_all
  simp [execOp, e1, Instr.loadAt, Instr.sureAddr, loadVar, hagg, hcell]) K
end
theorem run_storeCells_in {P : Program} (g o : Nat) (e : TypeId) (fr : Nat × Nat) : ∀ (vs : List Value) (i : Nat) (cur : Array Value) (w : World), w.heap[g]? = some (.cells cur e fr) → (∀ j, j < cur.size → ¬ (fr.1 ≤ j ∧ j < fr.2)) →
  o + i + vs.length ≤ cur.size → (∀ v ∈ vs, v.oneCell' = true) →
  (storeCells ⟨g, o, none⟩ vs i).run P w = .ok () (w.setRow g (cur.toList.take (o + i) ++ vs ++ cur.toList.drop (o + i + vs.length)).toArray)
 | [], i, cur, w, hg, _, _, _ => by
  simp only [storeCells, List.append_nil, List.length_nil, Nat.add_zero, List.take_append_drop, Array.toArray_toList]
  rw [setRow_self w g cur e fr hg]
  rfl
 | v :: rest, i, cur, w, hg, hf, hl, h1 => by
  have hi : o + i < cur.size := by simp at hl; omega
  have hadd : (⟨g, o, none⟩ : Addr).add i = ⟨g, o + i, none⟩ := Addr.add_lit g o i
  have hcell : w.cell? ⟨g, o + i, none⟩ = some cur[o + i] := by simp [World.cell?, hg, hi]
  have hfro : w.frozen? ⟨g, o + i, none⟩ = false := by
   have := hf (o + i) hi
   simp only [World.frozen?, hg]
   cases hh : (decide (fr.1 ≤ o + i) && decide (o + i < fr.2)) with
   | false => rfl
   | true => exact absurd (by simpa using hh) this
  have hst : (store ((⟨g, o, none⟩ : Addr).add i) v).run P w = .ok () (w.setRow g (cur.setIfInBounds (o + i) v)) := by
   rw [hadd, run_store P w _ v _ (h1 v (by simp)), hcell]
   simp [hfro, setCell_eq_setRow w g (o + i) cur e fr v hg]
  have ih := run_storeCells_in (P := P) g o e fr rest (i + 1) (cur.setIfInBounds (o + i) v) (w.setRow g (cur.setIfInBounds (o + i) v)) (setRow_heap w g cur _ e fr hg) (fun j hj => hf j (by simpa using hj)) (by simp at hl ⊢; omega) (fun x hx => h1 x (by simp [hx]))
  simp only [storeCells, Sem.run_bind, hst, Result.andThen_ok, ih, setRow_setRow]
  congr 3
  have e := list_seg_step cur.toList (o + i) v rest (by simp at hl ⊢; omega)
  simpa [Array.toList_setIfInBounds, Nat.add_assoc] using e
theorem take_splice {α : Type} (l vs : List α) (off n : Nat) (h : off + vs.length ≤ n) (hn : n ≤ l.length) :
  (l.take off ++ vs ++ l.drop (off + vs.length)).take n = (l.take n).take off ++ vs ++ (l.take n).drop (off + vs.length) := by
 have l1 : (l.take off).length = off := by simp; omega
 have l2 : (l.take off ++ vs).length = off + vs.length := by simp; omega
 rw [List.take_append, l2, List.take_append, l1, List.take_take, List.take_take, List.drop_take, List.take_of_length_le (l := vs) (by omega), show min n off = off by omega, show min off n = off by omega]
theorem put_cells {L : GH} {w : World} {g off : Nat} {r : Row} {vs : List Value} {us : List AV} (hr : ∀ g r, L g = some r → RowR L w g r) (hg : L g = some r) (hv : VSL L w us vs) (h1 : ∀ v ∈ vs, v.oneCell' = true)
  (hle : off + us.length ≤ r.cs.length) (hb : r.isc) : ∃ c fr, w.heap[g]? = some (.cells c r.e fr) ∧ (∀ j, j < c.size → ¬ (fr.1 ≤ j ∧ j < fr.2)) ∧ off + vs.length ≤ c.size ∧
   Ext L w (upd L g ⟨r.e, r.ap, r.cs.take off ++ us ++ r.cs.drop (off + us.length)⟩) (w.setRow g (c.toList.take off ++ vs ++ c.toList.drop (off + vs.length)).toArray) ∧
   ∀ g' r', upd L g ⟨r.e, r.ap, r.cs.take off ++ us ++ r.cs.drop (off + us.length)⟩ g' = some r' → RowR (upd L g ⟨r.e, r.ap, r.cs.take off ++ us ++ r.cs.drop (off + us.length)⟩) (w.setRow g (c.toList.take off ++ vs ++ c.toList.drop (off + vs.length)).toArray) g' r' := by
 obtain ⟨c, fr, zs, hh, hap, hfr, hl, hzs, hvz, h1z⟩ := (hr g r hg).c hb
 have hlen := hv.length
 have hsz : off + vs.length ≤ c.size := by omega
 have hnew := setRow_heap w g c (c.toList.take off ++ vs ++ c.toList.drop (off + vs.length)).toArray r.e fr hh
 have hns : (c.toList.take off ++ vs ++ c.toList.drop (off + vs.length)).toArray.size = c.size := by
  simp
  omega
 have hx : Ext L w (upd L g ⟨r.e, r.ap, r.cs.take off ++ us ++ r.cs.drop (off + us.length)⟩) (w.setRow g (c.toList.take off ++ vs ++ c.toList.drop (off + vs.length)).toArray) := by
  refine ⟨rfl, rfl, rfl, by simp, fun b hb hl => ?_, fun b hb hl => ?_, fun b c' e' fr' hc' => ?_⟩
  ·exact setRow_other w g b _ (by rintro rfl; rw [hg] at hl; cases hl)
  ·rw [upd_ne]
   ·exact hl
   ·rintro rfl; rw [hg] at hl; cases hl
  ·by_cases hb : b = g
   ·subst hb
    rw [hh] at hc'
    injection hc' with hc'
    injection hc' with h1 h2 h3
    subst h1
    exact ⟨_, _, _, hnew, hns⟩
   ·exact ⟨c', e', fr', by rw [setRow_other w g b _ hb]; exact hc', rfl⟩
 refine ⟨c, fr, hh, hfr, hsz, hx, fun g' r' hg' => ?_⟩
 by_cases hgg : g' = g
 ·subst hgg
  rw [upd_same] at hg'
  obtain rfl := Option.some.inj hg'
  have hlen2 : (r.cs.take off ++ us ++ r.cs.drop (off + us.length)).length = r.cs.length := by simp; omega
  refine RowC.r ?_ hb
  refine ⟨_, fr, zs.take off ++ vs ++ zs.drop (off + vs.length), hnew, hap, fun o ho => hfr o (by omega), by rw [hlen2, hns]; exact hl, ?_, ?_, ?_⟩
  ·show _ = List.take (r.cs.take off ++ us ++ r.cs.drop (off + us.length)).length _
   rw [hlen2, hzs]
   exact (take_splice c.toList vs off r.cs.length (by omega) (by simpa using hl)).symm
  ·exact VSL.ext hx _ _ (VSL.append (VSL.append (VSL.take off hvz) hv) (by rw [← hlen]; exact VSL.drop _ hvz))
  ·intro v hv'
   rcases List.mem_append.1 hv' with hv' | hv'
   ·rcases List.mem_append.1 hv' with hv' | hv'
    ·exact h1z v (List.mem_of_mem_take hv')
    ·exact h1 v hv'
   ·exact h1z v (List.mem_of_mem_drop hv')
 ·rw [upd_ne _ _ _ _ hgg] at hg'
  have k := hr g' r' hg'
  exact k.ext hx (setRow_other w g g' _ hgg)
section
variable {P : Program} {N : Nat} {ops : Array Oper} {Q : Exit → TM → GH → Prop} {d : Option Nat} {ty : TypeId} {pos : String} {af : Array Edge} {os : List Oper} {t : TM} {L : GH}
theorem JO.st {T : TypeId} {x y : Operand} {g off : Nat} {r : Row} {cs : List AV} {ti : TypeInfo} (hi : P.info? T = some ti) (hs : ti.size = cs.length)
  (hx : ev t x = .ptr g off) (hr : L g = some r) (hy : (ev t y).cells = cs) (h1 : ones cs = true) (hle : off + cs.length ≤ r.cs.length)
  (K : JO P N ops Q os t (upd L g ⟨r.e, r.ap, r.cs.take off ++ cs ++ r.cs.drop (off + cs.length)⟩)) (hb : r.isc := by first | exact trivial | assumption) : JO P N ops Q (⟨none, .store T x y, ty, pos, af, none⟩ :: os) t L := by
 refine JO.op rfl (fun _ => t) fun ro L0 w0 a w he s => ?_
 subst hy
 have e1 := s.ev x
 rw [hx] at e1
 simp only [VS] at e1
 have hv := cells_of (s.ev y) h1
 obtain ⟨c, fr, hh, hfr, hsz, hxt, hrows⟩ := put_cells s.rows hr hv (ones_cells h1 hv) hle hb
 have hlen := hv.length
 have hst := run_storeCells_in (P := P) g off r.e fr (a.eval y).cells.toList 0 c w hh hfr (by simpa using hsz) (ones_cells h1 hv)
 simp only [Nat.add_zero] at hst
 have hrun : (execOp a.eval ⟨none, .store T x y, ty, pos, af, none⟩).run P w = .ok .skip (w.setRow g (c.toList.take off ++ (a.eval y).cells.toList ++ c.toList.drop (off + (a.eval y).cells.toList.length)).toArray) := by
  have hz : (a.eval y).cells.size = ti.size := by rw [hs, hlen]; simp
  simp only [execOp, e1, Instr.storeAt, Instr.sureAddr, storeVar, Sem.run_bind, Sem.run_pure, Result.andThen_ok, sizeOf, typeInfo, run_program, hi, hz, ne_eq, not_true_eq_false, if_false]
  rw [hst]
  rfl
 unfold Oper.wp
 rw [hrun]
 simp only [Oper.upon_skip]
 exact K ro L0 w0 _ _ (he.trans hxt) (s.ext hxt hrows)
end
end Go.Proofs.YtaglpckihegmoaaDoorAv
namespace Go.Proofs.YtaglpckihegmoaaDoorAv
open Go Go.RowKit
def byteAV (b : UInt8) : AV := .p (.int .u8 b.toNat)
def bytesAV (s : ByteArray) : List AV := s.data.toList.map byteAV
theorem VSL.map_p {L : GH} {w : World} {α : Type} (f : α → Value) : ∀ xs : List α, VSL L w (xs.map fun x => AV.p (f x)) (xs.map f)
 | [] => by simp [VSL]
 | x :: xs => by simp only [List.map_cons, VSL, VS]; exact ⟨trivial, VSL.map_p f xs⟩
theorem VSL.of_p {L : GH} {w : World} {α : Type} (f : α → Value) : ∀ (xs : List α) (vs : List Value), VSL L w (xs.map fun x => AV.p (f x)) vs → vs = xs.map f
 | [], [], _ => rfl
 | x :: xs, v :: vs, h => by
  simp only [List.map_cons, VSL, VS] at h
  rw [List.map_cons, ← VSL.of_p f xs vs h.2, h.1]
 | [], _ :: _, h => by simp [VSL] at h
 | _ :: _, [], h => by simp [VSL] at h
theorem Push.bytes (w : World) (e : TypeId) (s : ByteArray) : Push w (Lib.bytesWorld w e s) (.cells (Lib.bytesCells w e s) e ((Lib.bytesCells w e s).size, (Lib.bytesCells w e s).size + 1)) := by
 refine ⟨?_, rfl, rfl, rfl⟩
 apply Array.ext'
 apply List.ext_getElem?
 intro i
 rw [Array.getElem?_toList, Array.getElem?_toList]
 by_cases hi : i < w.heap.size
 ·rw [Lib.bytesWorld_at_old w e s i hi, Array.getElem?_push, if_neg (Nat.ne_of_lt hi)]
 ·by_cases h2 : i = w.heap.size
  ·subst h2
   rw [Lib.bytesWorld_at_new]
   simp
  ·rw [Array.getElem?_eq_none (by rw [Lib.bytesWorld_size]; omega), Array.getElem?_eq_none (by simp; omega)]
section
variable {P : Program} {N : Nat} {ops : Array Oper} {Q : Exit → TM → GH → Prop} {d : Option Nat} {ty : TypeId} {pos : String} {af : Array Edge} {os : List Oper} {t : TM} {L : GH}
theorem JO.toBytes {S T e : TypeId} {x : Operand} {s : ByteArray} (hS : P.underlying S = some .string) (hT : P.underlying T = some (.slice e)) (he : P.underlying e = some (.int .u8)) (hx : ev t x = .p (.string s)) (hd : dok N d = true)
  (K : ∀ g, L g = none → JO P N ops Q os (t.putO d (.sl g 1 0 s.size)) (upd L g ⟨e, false, bytesAV s⟩)) : JO P N ops Q (⟨d, .convert S T x, ty, pos, af, none⟩ :: os) t L :=
 JO.new (fun g => .sl g 1 0 s.size) hd (fun a w sm => by
  have e1 := sm.ev x
  rw [hx] at e1
  simp only [VS] at e1
  have hp := Push.bytes w e s
  have hc : Lib.bytesCells w e s = ((s.data.toList.map fun b : UInt8 => Value.int .u8 b.toNat) ++ List.replicate (grownCap w s.size 0 e - s.size) (Value.int .u8 0)).toArray := by
   unfold Lib.bytesCells
   apply Array.ext'
   simp
  have hz : (Lib.bytesCells w e s).size = grownCap w s.size 0 e := by
   have := grownCap_ge w s.size 0 e
   simp [Lib.bytesCells]
   omega
  rw [hc] at hp hz
  refine ⟨_, _, _, _, .slice (some ⟨w.heap.size, 0, none⟩) s.size (grownCap w s.size 0 e), hp, fun h => by simp at h, fun o ho => ?_, ?_, ?_, ?_, fun L' => ?_⟩
  ·simp only [List.size_toArray]
   omega
  ·simp only [execOp, e1, Sem.run_bind, Lib.run_convert_string_bytes w S T e s hS hT he]
   rfl
  ·exact VSL.map_p (fun b : UInt8 => Value.int .u8 b.toNat) s.data.toList
  ·intro v hv
   obtain ⟨b, _, rfl⟩ := List.mem_map.1 hv
   rfl
  ·simp only [VS]
   exact ⟨_, _, rfl, grownCap_ge w s.size 0 e, .inr ⟨rfl, _, e, _, hp.new, by omega⟩⟩) K
def ofBytes (bs : List UInt8) : ByteArray := ⟨bs.toArray⟩
def txtOf (n : Nat) (f : Nat → UInt8) : ByteArray := ofBytes ((List.range n).map f)
theorem foldl_push (bs : List UInt8) (r : ByteArray) : (bs.map fun b : UInt8 => (b.toNat : Int)).foldl (fun r n => r.push (UInt8.ofNat n.toNat)) r = ⟨r.data ++ bs.toArray⟩ := by
 induction bs generalizing r with
 | nil => simp
 | cons b bs ih =>
  simp only [List.map_cons, List.foldl_cons, ih]
  congr 1
  simp [ByteArray.push]
theorem run_strOf {P : Program} {w : World} {S T e : TypeId} {a : Option Addr} {n cap : Nat} {bs : List UInt8} (hS : P.underlying S = some (.slice e)) (hT : P.underlying T = some .string) (he : P.underlying e = some (.int .u8))
  (hn : n = bs.length) (hc : bs = [] ∨ ∃ ad, a = some ad ∧ ∀ i v, (bs.map fun b : UInt8 => Value.int .u8 b.toNat)[i]? = some v → w.cell? (ad.add i) = some v) :
  (convert S T (.slice a n cap)).run P w = .ok (.string (ofBytes bs)) w := by
 have h0 : (convert S T (.slice a n cap)).run P w = (Conv.bytesToString (.slice a n cap)).run P w := by
  simp [convert, run_underlying hS, run_underlying hT, run_underlying he]
 rw [h0]
 rcases hc with rfl | ⟨ad, rfl, hc⟩
 ·subst hn
  cases a <;> simp [Conv.bytesToString, loadCells, loadCellsFrom, ofBytes] <;> rfl
 ·have hl := run_loadCells_list (P := P) w ad _ hc
  rw [List.length_map, ← hn] at hl
  have := run_bytesToString (P := P) w ad n cap (bs.map fun b : UInt8 => (b.toNat : Int)) (by rw [hl, List.map_map]; rfl)
  rw [this, foldl_push]
  simp [ofBytes, ByteArray.empty, ByteArray.emptyWithCapacity]
  try rfl
end
def hv (og : Option Nat) (sz n : Nat) : AV :=
 match og with
 | none => .p (.slice none 0 0)
 | some g => .sl g sz 0 n
def updo (L : GH) (og : Option Nat) (r : Row) : GH :=
 match og with
 | none => L
 | some g => upd L g r
def Fre (L : GH) (og : Option Nat) : Prop := ∀ g, og = some g → L g = none
def srcOf (L : GH) : AV → Option (Nat × List AV)
 | .fz n cs => some (n, cs)
 | .fzc n cs => some (n, cs)
 | .p (.slice none n _) => some (n, [])
 | .sl g sz off n => (L g).map fun r => (n, (r.cs.drop off).take (n * sz))
 | _ => none
theorem src_run {P : Program} {L : GH} {w : World} (hr : ∀ g r, L g = some r → RowR L w g r) {v : AV} {n : Nat} {cs : List AV} {x : Value} (h : srcOf L v = some (n, cs)) (hx : VS L w v x) :
  ∃ a c vs, x = .slice a n c ∧ VSL L w cs vs ∧ (∀ v ∈ vs, v.oneCell' = true) ∧ (vs = [] ∨ ∃ ad, a = some ad ∧ ∀ i v, vs[i]? = some v → w.cell? (ad.add i) = some v) := by
 unfold srcOf at h
 split at h
 ·simp only [Option.some.injEq, Prod.mk.injEq] at h
  obtain ⟨rfl, rfl⟩ := h
  simp only [VS] at hx
  obtain ⟨a, c, vs, rfl, _, hc, hv⟩ := hx
  rcases hc with h | ⟨ad, ha, _, h1, hc⟩
  ·subst h
   exact ⟨a, c, [], rfl, hv, by simp, .inl rfl⟩
  ·exact ⟨a, c, vs, rfl, hv, h1, .inr ⟨ad, ha, hc⟩⟩
 ·simp only [Option.some.injEq, Prod.mk.injEq] at h
  obtain ⟨rfl, rfl⟩ := h
  simp only [VS] at hx
  obtain ⟨a, vs, rfl, hc, hv⟩ := hx
  rcases hc with h | ⟨ad, ha, _, h1, hc⟩
  ·subst h
   exact ⟨a, _, [], rfl, hv, by simp, .inl rfl⟩
  ·exact ⟨a, _, vs, rfl, hv, h1, .inr ⟨ad, ha, hc⟩⟩
 ·simp only [Option.some.injEq, Prod.mk.injEq] at h
  obtain ⟨rfl, rfl⟩ := h
  simp only [VS] at hx
  exact ⟨_, _, [], hx, by simp [VSL], by simp, .inl rfl⟩
 ·rename_i g sz off n'
  cases hg : L g with
  | none => simp [hg] at h
  | some r =>
   simp only [hg, Option.map_some, Option.some.injEq, Prod.mk.injEq] at h
   obtain ⟨rfl, rfl⟩ := h
   simp only [VS] at hx
   obtain ⟨a, cap, rfl, hn, hc⟩ := hx
   rcases (hr g r hg).cs with hrc | hrc
   case inr =>
    rw [hrc]
    exact ⟨a, cap, [], rfl, by simp [VSL], by simp, .inl rfl⟩
   obtain ⟨c, fr, vs, hh, _, _, hl, hvs, hv, h1⟩ := hrc
   have hv2 := VSL.take (n' * sz) (VSL.drop off hv)
   refine ⟨a, cap, (vs.drop off).take (n' * sz), rfl, hv2, fun v hv => h1 v (List.mem_of_mem_drop (List.mem_of_mem_take hv)), ?_⟩
   rcases hc with hc | ⟨rfl, _⟩
   ·left
    have : n' = 0 := by omega
    simp [this]
   ·refine .inr ⟨_, rfl, fun i v hi => ?_⟩
    rw [add_plain]
    rw [List.getElem?_take] at hi
    split at hi
    ·rw [List.getElem?_drop, hvs, List.getElem?_take] at hi
     split at hi
     ·simp only [World.cell?, hh]
      simpa using hi
     ·cases hi
    ·cases hi
 ·cases h
theorem updo_none {L : GH} {og : Option Nat} {r : Row} {b : Nat} (h : updo L og r b = none) : (∀ g, og = some g → b ≠ g) ∧ L b = none := by
 cases og with
 | none => exact ⟨fun g hg => (by cases hg), h⟩
 | some g =>
  have h' := upd_none (show upd L g r b = none from h)
  exact ⟨fun g' hg => by cases hg; exact h'.1, h'.2⟩
theorem Ext.moved {L0 : GH} {og : Option Nat} {r : Row} {w w' : World} {g : Nat} (s : Row) (h : Ext (updo L0 og r) w (updo L0 og r) w') (hg : w.heap.size ≤ g ∨ og = some g) : Ext (updo L0 og r) w (upd L0 g s) w' :=
 ⟨h.os, h.tape, h.output, h.size, h.keep, fun b hb hl => by
  obtain ⟨h1, h2⟩ := updo_none hl
  rw [upd_ne]
  ·exact h2
  ·rintro rfl
   rcases hg with hg | hg
   ·omega
   ·exact h1 _ hg rfl, h.shape⟩
section
variable {P : Program} {N : Nat} {ops : Array Oper} {Q : Exit → TM → GH → Prop} {d : Option Nat} {ty : TypeId} {pos : String} {af : Array Edge} {os : List Oper} {t : TM} {L0 : GH}
theorem run_src {P : Program} {w : World} {ya : Option Addr} {m yc sz : Nat} {us : List Value} (hl : us.length = m * sz) (h : us = [] ∨ ∃ ad, ya = some ad ∧ ∀ i v, us[i]? = some v → w.cell? (ad.add i) = some v) :
  (Builtin.firstCells sz m (.slice ya m yc)).run P w = .ok us.toArray w := by
 cases ya with
 | none =>
  rcases h with rfl | ⟨ad, h, _⟩
  ·simp [Builtin.firstCells]
  ·cases h
 | some b =>
  refine run_firstCells_some w sz m b m yc us hl ?_
  rcases h with rfl | ⟨ad, h, hc⟩
  ·intro j v hv; simp at hv
  ·obtain rfl := Option.some.inj h
   exact hc
theorem run_append_in {P : Program} {w w' : World} {T ty e : TypeId} {ti : TypeInfo} (hT : P.underlying T = some (.slice e)) (hi : P.info? e = some ti) {a ya : Option Addr} {n cap m yc : Nat} {us : List Value}
  (hu : (Builtin.firstCells ti.size m (.slice ya m yc)).run P w = .ok us.toArray w) (hroom : n + m ≤ cap) (hst : ∀ b, a = some b → (storeCells (b.add (n * ti.size)) us).run P w = .ok () w') (hst0 : a = none → w' = w) :
  (Builtin.append_ #[T, T] ty #[.slice a n cap, .slice ya m yc]).run P w = .ok (.slice a (n + m) cap) w' := by
 cases a with
 | none =>
  obtain rfl := hst0 rfl
  simp [Builtin.append_, run_underlying hT, sizeOf, typeInfo, hi, Builtin.lenOf, hroom, hu]
 | some a =>
  simp [Builtin.append_, run_underlying hT, sizeOf, typeInfo, hi, Builtin.lenOf, hroom, hu, hst a rfl]
theorem run_append_out {P : Program} {w : World} {T ty e : TypeId} {ti : TypeInfo} {z : Value} (hT : P.underlying T = some (.slice e)) (hi : P.info? e = some ti) (hz : ti.zero = some z) {a ya : Option Addr} {n cap m yc : Nat} {vs us : List Value}
  (hv : (Builtin.firstCells ti.size n (.slice a n cap)).run P w.drew = .ok vs.toArray w.drew) (hu : (Builtin.firstCells ti.size m (.slice ya m yc)).run P w.drew = .ok us.toArray w.drew)
  (hg : cap < n + m) (h63 : ((n + m : Nat) : Int) ≤ 9223372036854775807) (hfit : Builtin.nextslicecap (n + m) cap * ti.bytes ≤ 281474976710656) :
  (Builtin.append_ #[T, T] ty #[.slice a n cap, .slice ya m yc]).run P w =
   .ok (.slice (some ⟨w.heap.size, 0, none⟩) (n + m) (grownCap w (n + m) cap e)) (w.drew.alloc (.cells (vs ++ us ++ (Builtin.zeroCells z.cells (grownCap w (n + m) cap e - (n + m))).toList).toArray e)) := by
 have hn : ¬ (n + m ≤ cap) := by omega
 have h63' : ¬ (9223372036854775807 < ((n : Int) + (m : Int))) := by omega
 have h48' : ¬ (281474976710656 < Builtin.nextslicecap (n + m) cap * ti.bytes) := by omega
 simp [Builtin.append_, run_underlying hT, sizeOf, typeInfo, zeroValue, hi, hz, Builtin.lenOf, hn, h63', h48', Question.forced, hv, hu, newRow, grownCap]
 congr 2
 apply Array.ext'
 simp [List.append_assoc]
theorem hv_cells {L : GH} {w : World} (hr : ∀ g r, L g = some r → RowR L w g r) {og : Option Nat} {e : TypeId} {cs : List AV} {sz n : Nat} (hrow : ∀ g, og = some g → L g = some ⟨e, true, cs⟩) (hnil : og = none → cs = [] ∧ n = 0) (hl : cs.length = n * sz)
  {x : Value} (hx : VS L w (hv og sz n) x) : (x = .slice none 0 0 ∧ cs = [] ∧ n = 0 ∧ og = none) ∨ ∃ g a cap c vs, og = some g ∧ x = .slice a n cap ∧ n ≤ cap ∧ w.heap[g]? = some (.cells c e (0, 0)) ∧ cs.length ≤ c.size ∧ vs = c.toList.take cs.length ∧
   VSL L w cs vs ∧ (∀ v ∈ vs, v.oneCell' = true) ∧ (cap = 0 ∨ (a = some ⟨g, 0, none⟩ ∧ cap * sz ≤ c.size)) := by
 cases og with
 | none =>
  left
  simp only [hv, VS] at hx
  exact ⟨hx, (hnil rfl).1, (hnil rfl).2, rfl⟩
 | some g =>
  right
  simp only [hv, VS] at hx
  obtain ⟨a, cap, rfl, hn, hc⟩ := hx
  obtain ⟨c, fr, vs, hh, hap, _, hle, hvs, hv, h1⟩ := hr g _ (hrow g rfl)
  have hf := hap rfl
  subst hf
  refine ⟨g, a, cap, c, vs, rfl, rfl, hn, hh, hle, hvs, hv, h1, ?_⟩
  rcases hc with hc | ⟨ha, c', e', fr', hh', hs⟩
  ·exact .inl hc
  ·rw [hh] at hh'
   injection hh' with hh'
   injection hh' with q1 q2 q3
   subst q1
   exact .inr ⟨ha, by omega⟩
theorem VSL.split {L : GH} {w : World} {cs ds : List AV} {vs us : List Value} (h : VSL L w cs vs) (k : VSL L w ds us) : VSL L w (cs ++ ds) (vs ++ us) := h.append k
theorem JO.append' {T e : TypeId} {x y : Operand} {og : Option Nat} {cs ys : List AV} {sz n m : Nat} {ti : TypeInfo} {z : Value} (hT : P.underlying T = some (.slice e)) (hi : P.info? e = some ti) (hz : ti.zero = some z) (hs : ti.size = sz) (hzz : z.cells.size = sz)
  (hF : Fre L0 og) (hx : ev t x = hv og sz n) (hnil : og = none → cs = [] ∧ n = 0) (hl : cs.length = n * sz) (hy : srcOf (updo L0 og ⟨e, true, cs⟩) (ev t y) = some (m, ys)) (hm : ys.length = m * sz)
  (hb : (n + m) * ti.bytes ≤ 140737488355328) (hb2 : n + m ≤ 140737488355328) (hsz : 0 < sz) (hd : dok N d = true)
  (K : ∀ og', Fre L0 og' → (og' = none → cs ++ ys = [] ∧ n + m = 0) → JO P N ops Q os (t.putO d (hv og' sz (n + m))) (updo L0 og' ⟨e, true, cs ++ ys⟩)) :
  JO P N ops Q (⟨d, .call { callee := .builtin .append, args := #[x, y], argTypes := #[T, T] }, ty, pos, af, none⟩ :: os) t (updo L0 og ⟨e, true, cs⟩) :=
 JO.value (dok_lt hd) fun a w s => by
  have hrow : ∀ g, og = some g → updo L0 og ⟨e, true, cs⟩ g = some ⟨e, true, cs⟩ := by rintro g rfl; exact upd_same _ _ _
  have ex := s.ev x
  rw [hx] at ex
  obtain ⟨ya, yc, us, ey, hus, h1us, hcy⟩ := src_run (P := P) s.rows hy (s.ev y)
  have hrun : ∀ v w', (Builtin.append_ #[T, T] ty #[a.eval x, a.eval y]).run P w = .ok v w' → (execOp a.eval ⟨d, .call { callee := .builtin .append, args := #[x, y], argTypes := #[T, T] }, ty, pos, af, none⟩).run P w = .ok (.value v) w' := by
   intro v w' hv
   simp only [execOp, resolve, invoke, builtin, List.map_toArray, Sem.run_bind, Sem.run_pure, Result.andThen_ok] at hv ⊢
   simp only [List.map_cons, List.map_nil] at hv ⊢
   rw [hv]
   rfl
  have hul := hus.length
  -- the two ways that make a new block
  have grown : ∀ (vs : List Value) (rest : Array Value) (cap : Nat) (w2 : World), VSL (updo L0 og ⟨e, true, cs⟩) w cs vs → (∀ v ∈ vs, v.oneCell' = true) → n + m ≤ cap → (vs ++ us ++ rest.toList).length = cap * sz →
    w2 = w.drew.alloc (.cells (vs ++ us ++ rest.toList).toArray e) → (Builtin.append_ #[T, T] ty #[a.eval x, a.eval y]).run P w = .ok (.slice (some ⟨w.heap.size, 0, none⟩) (n + m) cap) w2 →
    ∃ x' w' v L', (execOp a.eval ⟨d, .call { callee := .builtin .append, args := #[x, y], argTypes := #[T, T] }, ty, pos, af, none⟩).run P w = .ok (.value x') w' ∧ Ext (updo L0 og ⟨e, true, cs⟩) w L' w' ∧ (∀ g r, L' g = some r → RowR L' w' g r) ∧ VS L' w' v x' ∧
     JO P N ops Q os (t.putO d v) L' := by
   intro vs rest cap w2 hvs h1vs hcap hlen hw2 hr
   subst hw2
   have hp : Push w (w.drew.alloc (.cells (vs ++ us ++ rest.toList).toArray e)) (.cells ((vs ++ us) ++ rest.toList).toArray e (0, 0)) := Push.drew w _
   have hfr0 : updo L0 og ⟨e, true, cs⟩ w.heap.size = none := fresh_of s.rows
   have hfr1 : L0 w.heap.size = none := (updo_none hfr0).2
   have hx1 : Ext (updo L0 og ⟨e, true, cs⟩) w (upd L0 w.heap.size ⟨e, true, cs ++ ys⟩) (w.drew.alloc (.cells (vs ++ us ++ rest.toList).toArray e)) := Ext.moved _ (hp.ext _) (.inl (Nat.le_refl _))
   refine ⟨_, _, hv (some w.heap.size) sz (n + m), updo L0 (some w.heap.size) ⟨e, true, cs ++ ys⟩, hrun _ _ hr, hx1, ?_, ?_, K (some w.heap.size) (by rintro g hg; cases hg; exact hfr1) (fun h => by cases h)⟩
   ·have hall := hp.rows s.rows true (cs ++ ys) (fun _ => rfl) (fun o _ => by simp) (hvs.append hus) (by intro v hv; rcases List.mem_append.1 hv with h | h; exact h1vs v h; exact h1us v h)
    intro g r hg
    by_cases hgs : g = w.heap.size
    ·subst hgs
     have hg' : upd L0 w.heap.size ⟨e, true, cs ++ ys⟩ w.heap.size = some r := hg
     rw [upd_same] at hg'
     obtain rfl := Option.some.inj hg'
     exact (hall w.heap.size ⟨e, true, cs ++ ys⟩ (upd_same _ _ _)).ext (Ext.drop _ fun b hb => by
      obtain ⟨q1, q2⟩ := upd_none hb
      show upd L0 _ _ b = none
      rw [upd_ne _ _ _ _ q1]
      exact (updo_none q2).2) rfl
    ·have hg' : upd L0 w.heap.size ⟨e, true, cs ++ ys⟩ g = some r := hg
     rw [upd_ne _ _ _ _ hgs] at hg'
     have hgo : updo L0 og ⟨e, true, cs⟩ g = some r := by
      cases og with
      | none => exact hg'
      | some g0 =>
       show upd L0 g0 _ g = some r
       rw [upd_ne]
       ·exact hg'
       ·rintro rfl
        rw [hF _ rfl] at hg'
        cases hg'
     have k := s.rows g r hgo
     exact k.ext hx1 (hp.old k.lt)
   ·simp only [hv, VS]
    refine ⟨_, _, rfl, hcap, .inr ⟨rfl, _, e, _, hp.new, ?_⟩⟩
    simp only [List.size_toArray]
    omega
  have hzl : ∀ k, (Builtin.zeroCells z.cells k).toList.length = k * sz := fun k => by simp [Builtin.zeroCells, hzz]
  have h63 : ((n + m : Nat) : Int) ≤ 9223372036854775807 := by omega
  have hus' : us.length = m * ti.size := by rw [hs]; omega
  rcases hv_cells s.rows hrow hnil hl ex with ⟨ex', hcs, hn0, hog⟩ | ⟨g, xa, cap, c, vs, hog, ex', hncap, hh, hle, hvs, hvv, h1v, hcap⟩
  ·-- nil
   subst hcs
   subst hn0
   subst hog
   by_cases hm0 : m = 0
   ·subst hm0
    have hus0 : us = [] := List.length_eq_zero_iff.1 (by omega)
    subst hus0
    have hys0 : ys = [] := List.length_eq_zero_iff.1 (by omega)
    subst hys0
    have hr := run_append_in (ty := ty) (w := w) (w' := w) (a := none) (n := 0) (cap := 0) hT hi (run_src (P := P) (w := w) (ya := ya) (yc := yc) hus' (.inl rfl)) (Nat.le_refl _) (fun b hb => by cases hb) (fun _ => rfl)
    refine ⟨_, w, hv none sz (0 + 0), updo L0 none ⟨e, true, [] ++ []⟩, hrun _ _ (by rw [ex', ey]; exact hr), Ext.refl _ _, s.rows, by simp [hv, VS], K none hF (fun _ => ⟨rfl, rfl⟩)⟩
   ·have hr := run_append_out (ty := ty) (w := w) (a := none) (n := 0) (cap := 0) (vs := []) hT hi hz (run_src (P := P) (sz := ti.size) (by simp) (.inl rfl)) (run_src (P := P) (w := w.drew) (ya := ya) (yc := yc) hus' hcy) (by omega) h63
     (by rw [nextslicecap_zero (by omega)]; omega)
    refine grown [] _ _ _ (by simp [VSL]) (by simp) (grownCap_ge _ _ _ _) ?_ rfl (by rw [ex', ey]; exact hr)
    have hge := grownCap_ge w (0 + m) 0 e
    rw [List.nil_append, List.length_append, hzl, ← hul, hm, ← Nat.add_mul]
    congr 1
    omega
  ·subst hog
   have hvl := hvv.length
   have hvs' : vs.length = n * ti.size := by rw [hs]; omega
   have hold : vs = [] ∨ ∃ ad, xa = some ad ∧ ∀ i v, vs[i]? = some v → w.cell? (ad.add i) = some v := by
    rcases hcap with hcap | ⟨rfl, _⟩
    ·left
     have : n = 0 := by omega
     exact List.length_eq_zero_iff.1 (by rw [hvs', this]; simp)
    ·refine .inr ⟨_, rfl, fun i v hi => ?_⟩
     rw [add_plain]
     have hlt := (List.getElem?_eq_some_iff.1 hi).1
     rw [hvs, List.getElem?_take, if_pos (by omega)] at hi
     simp only [World.cell?, hh]
     simpa using hi
   by_cases hroom : n + m ≤ cap
   ·-- within the room
    rcases hcap with hcap | ⟨rfl, hcz⟩
    ·-- nothing at all
     have hn0 : n = 0 := by omega
     have hm0 : m = 0 := by omega
     have hus0 : us = [] := List.length_eq_zero_iff.1 (by rw [hus', hm0]; simp)
     have hys0 : ys = [] := List.length_eq_zero_iff.1 (by rw [hm, hm0]; simp)
     subst hus0
     subst hys0
     have hr := run_append_in (ty := ty) (w := w) (w' := w) (a := xa) (n := n) (cap := cap) hT hi (run_src (P := P) (w := w) (ya := ya) (yc := yc) hus' (.inl rfl)) hroom (fun b _ => by simp [storeCells]) (fun _ => rfl)
     refine ⟨_, w, hv (some g) sz (n + m), updo L0 (some g) ⟨e, true, cs ++ []⟩, hrun _ _ (by rw [ex', ey]; exact hr), by rw [List.append_nil]; exact Ext.refl _ _, by rw [List.append_nil]; exact s.rows, ?_, K (some g) hF (fun h => by cases h)⟩
     simp only [hv, VS]
     exact ⟨_, _, rfl, hroom, .inl hcap⟩
    ·have hle2 : (n + m) * sz ≤ cap * sz := Nat.mul_le_mul_right _ hroom
     rw [Nat.add_mul] at hle2
     have hst := run_storeCells_in (P := P) g (n * ti.size) e (0, 0) us 0 c w hh (fun j _ => by simp) (by rw [hus', hs]; omega) h1us
     simp only [Nat.add_zero] at hst
     have hr := run_append_in (ty := ty) (w := w) (a := some ⟨g, 0, none⟩) (n := n) (cap := cap) hT hi (run_src (P := P) (w := w) (ya := ya) (yc := yc) hus' hcy) hroom (fun b hb => by cases hb; rw [add_plain, Nat.zero_add]; exact hst) (fun h => by cases h)
     have hnew := setRow_heap w g c (c.toList.take (n * ti.size) ++ us ++ c.toList.drop (n * ti.size + us.length)).toArray e (0, 0) hh
     have hns : (c.toList.take (n * ti.size) ++ us ++ c.toList.drop (n * ti.size + us.length)).toArray.size = c.size := by
      simp only [List.size_toArray, List.length_append, List.length_take, List.length_drop, Array.length_toList]
      rw [hus', hs]
      omega
     have hx0 : Ext (updo L0 (some g) ⟨e, true, cs⟩) w (updo L0 (some g) ⟨e, true, cs⟩) (w.setRow g (c.toList.take (n * ti.size) ++ us ++ c.toList.drop (n * ti.size + us.length)).toArray) := by
      refine ⟨rfl, rfl, rfl, by simp, fun b hb hl => ?_, fun b hb hl => hl, fun b c' e' fr' hc' => ?_⟩
      ·exact setRow_other w g b _ ((updo_none hl).1 g rfl)
      ·by_cases hb : b = g
       ·subst hb
        rw [hh] at hc'
        injection hc' with hc'
        injection hc' with q1 q2 q3
        subst q1
        exact ⟨_, _, _, hnew, hns⟩
       ·exact ⟨c', e', fr', by rw [setRow_other w g b _ hb]; exact hc', rfl⟩
     have hx1 : Ext (updo L0 (some g) ⟨e, true, cs⟩) w (upd L0 g ⟨e, true, cs ++ ys⟩) (w.setRow g (c.toList.take (n * ti.size) ++ us ++ c.toList.drop (n * ti.size + us.length)).toArray) := Ext.moved _ hx0 (.inr rfl)
     refine ⟨_, _, hv (some g) sz (n + m), updo L0 (some g) ⟨e, true, cs ++ ys⟩, hrun _ _ (by rw [ex', ey]; exact hr), hx1, ?_, ?_, K (some g) hF (fun h => by cases h)⟩
     ·intro g' r hg'
      have hg2 : upd L0 g ⟨e, true, cs ++ ys⟩ g' = some r := hg'
      by_cases hgg : g' = g
      ·subst hgg
       rw [upd_same] at hg2
       obtain rfl := Option.some.inj hg2
       refine ⟨_, (0, 0), vs ++ us, hnew, fun _ => rfl, fun o _ => by simp, ?_, ?_, VSL.ext hx1 _ _ (hvv.append hus), by intro v hv; rcases List.mem_append.1 hv with h | h; exact h1v v h; exact h1us v h⟩
       ·rw [hns, List.length_append, hul]
        rw [hus', hs]
        omega
       ·show vs ++ us = List.take (cs ++ ys).length _
        have e1 : (c.toList.take (n * ti.size)) = vs := by rw [hvs, hs, ← hl]
        rw [e1, List.length_append, hul, hvl, List.take_append_of_le_length (by simp)]
        rw [List.take_of_length_le (by simp)]
      ·rw [upd_ne _ _ _ _ hgg] at hg2
       have k := s.rows g' r (by show upd L0 g _ g' = some r; rw [upd_ne _ _ _ _ hgg]; exact hg2)
       exact k.ext hx1 (setRow_other w g g' _ hgg)
     ·simp only [hv, VS]
      exact ⟨_, _, rfl, hroom, .inr ⟨rfl, _, e, _, hnew, by rw [hns]; omega⟩⟩
   ·have hr := run_append_out (ty := ty) (w := w) (a := xa) (n := n) (cap := cap) (vs := vs) hT hi hz (run_src (P := P) (w := w.drew) hvs' hold) (run_src (P := P) (w := w.drew) (ya := ya) (yc := yc) hus' hcy) (by omega) h63
     (growslice_fits (by omega) hb)
    refine grown vs _ _ _ hvv h1v (grownCap_ge _ _ _ _) ?_ rfl (by rw [ex', ey]; exact hr)
    have hge := grownCap_ge w (n + m) cap e
    rw [List.length_append, List.length_append, hzl, ← hul, hm, ← hvl, hl, ← Nat.add_mul, ← Nat.add_mul]
    congr 1
    omega
theorem JO.append {T e : TypeId} {x y : Operand} {og : Option Nat} {cs ys : List AV} {sz n m : Nat} {ti : TypeInfo} {z : Value} (hT : P.underlying T = some (.slice e)) (hi : P.info? e = some ti) (hz : ti.zero = some z) (hs : ti.size = sz) (hzz : z.cells.size = sz)
  (hF : Fre L0 og) (hx : ev t x = hv og sz n) (hnil : og = none → cs = [] ∧ n = 0) (hl : cs.length = n * sz) (hy : srcOf (updo L0 og ⟨e, true, cs⟩) (ev t y) = some (m, ys)) (hm : ys.length = m * sz) (h1 : ones ys = true)
  (hb : (n + m) * ti.bytes ≤ 140737488355328) (hb2 : n + m ≤ 140737488355328) (hsz : 0 < sz) (hd : dok N d = true)
  (K : ∀ og', Fre L0 og' → (og' = none → cs ++ ys = [] ∧ n + m = 0) → JO P N ops Q os (t.putO d (hv og' sz (n + m))) (updo L0 og' ⟨e, true, cs ++ ys⟩)) :
  JO P N ops Q (⟨d, .call { callee := .builtin .append, args := #[x, y], argTypes := #[T, T] }, ty, pos, af, none⟩ :: os) t (updo L0 og ⟨e, true, cs⟩) := JO.append' hT hi hz hs hzz hF hx hnil hl hy hm hb hb2 hsz hd K
end
end Go.Proofs.YtaglpckihegmoaaDoorAv
namespace Go.Proofs.YtaglpckihegmoaaDoorAv
open Go Go.RowKit
theorem foldl_set (off : Nat) : ∀ (xs : List Value) (k : Nat) (cs : Array Value), off + k + xs.length ≤ cs.size →
  (xs.zipIdx k).foldl (fun (cs : Array Value) (p : Value × Nat) => cs.setIfInBounds (off + p.2) p.1) cs = (cs.toList.take (off + k) ++ xs ++ cs.toList.drop (off + k + xs.length)).toArray
 | [], k, cs, h => by simp
 | x :: xs, k, cs, h => by
  simp only [List.zipIdx_cons, List.foldl_cons]
  rw [foldl_set off xs (k + 1) _ (by simp at h ⊢; omega)]
  have e := list_seg_step cs.toList (off + k) x xs (by simp at h ⊢; omega)
  rw [Array.toList_setIfInBounds]
  congr 1
theorem fill_all (sz : Nat) : ∀ (vs : List Value) (k : Nat) (cs : Array Value), (∀ v ∈ vs, v.cells.size = sz) → (k + vs.length) * sz ≤ cs.size →
  Instr.fill (fun i => some (i * sz, sz)) cs ((vs.zipIdx k).map fun p => (p.2, p.1)) = some (cs.toList.take (k * sz) ++ vs.flatMap (·.cells.toList) ++ cs.toList.drop ((k + vs.length) * sz)).toArray
 | [], k, cs, _, _ => by simp [Instr.fill]
 | v :: vs, k, cs, hv, hl => by
  have hv0 := hv v (by simp)
  have hb : (k + (vs.length + 1)) * sz = k * sz + sz + vs.length * sz := by rw [Nat.add_mul, Nat.add_mul]; omega
  simp only [List.length_cons] at hl
  rw [hb] at hl
  simp only [List.zipIdx_cons, List.map_cons, Instr.fill]
  rw [if_neg (by simp [hv0]; omega)]
  have hz : (v.cells.zipIdx.foldl (fun cs (c, j) => cs.setIfInBounds (k * sz + j) c) cs) = (cs.toList.take (k * sz) ++ v.cells.toList ++ cs.toList.drop (k * sz + v.cells.size)).toArray := by
   have := foldl_set (k * sz) v.cells.toList 0 cs (by simp; omega)
   simp only [Nat.add_zero, Array.length_toList] at this
   rw [← this, ← Array.foldl_toList, Array.toList_zipIdx]
  rw [hz, fill_all sz vs (k + 1) _ (fun u hu => hv u (by simp [hu])) (by simp; rw [show (k + 1 + vs.length) * sz = k * sz + sz + vs.length * sz by rw [Nat.add_mul, Nat.add_mul]; omega]; omega)]
  congr 2
  have l1 : (cs.toList.take (k * sz)).length = k * sz := by simp; omega
  have l2 : (cs.toList.take (k * sz) ++ v.cells.toList).length = (k + 1) * sz := by rw [List.length_append, l1, Array.length_toList, hv0, Nat.add_mul]; omega
  simp only [List.flatMap_cons]
  have e1 : ((cs.toList.take (k * sz) ++ v.cells.toList ++ cs.toList.drop (k * sz + v.cells.size))).take ((k + 1) * sz) = cs.toList.take (k * sz) ++ v.cells.toList := by
   rw [List.take_append_of_le_length (by omega), List.take_of_length_le (by omega)]
  have e2 : ((cs.toList.take (k * sz) ++ v.cells.toList ++ cs.toList.drop (k * sz + v.cells.size))).drop ((k + 1 + vs.length) * sz) = cs.toList.drop ((k + (v :: vs).length) * sz) := by
   rw [List.drop_append, l2, List.drop_of_length_le (by rw [l2]; exact Nat.mul_le_mul_right _ (by omega)), List.nil_append, List.drop_drop]
   congr 1
   simp only [List.length_cons]
   rw [hv0, Nat.add_mul, Nat.add_mul, Nat.add_mul, Nat.add_mul]
   omega
  rw [e1, e2]
  simp [List.append_assoc]
def partsOf (xs : List Operand) : List (Nat × Operand) := (xs.zipIdx).map fun p => (p.2, p.1)
theorem partsOf_map (f : Operand → Value) (xs : List Operand) : (partsOf xs).map (fun p => (p.1, f p.2)) = ((xs.map f).zipIdx).map fun p => (p.2, p.1) := by
 unfold partsOf
 rw [List.map_map, List.zipIdx_map, List.map_map]
 rfl
theorem flat_cells {L : GH} {w : World} : ∀ {vs : List AV} {xs : List Value}, VSL L w vs xs → (∀ v ∈ vs, ones v.cells = true) → VSL L w (vs.flatMap AV.cells) (xs.flatMap (·.cells.toList))
 | [], [], _, _ => by simp [VSL]
 | v :: vs, x :: xs, h, h1 => by
  simp only [VSL] at h
  simp only [List.flatMap_cons]
  exact (cells_of h.1 (h1 v (by simp))).append (flat_cells h.2 (fun u hu => h1 u (by simp [hu])))
 | [], _ :: _, h, _ => by simp [VSL] at h
 | _ :: _, [], h, _ => by simp [VSL] at h
theorem cells_len {L : GH} {w : World} : ∀ {vs : List AV} {xs : List Value} {sz : Nat}, VSL L w vs xs → (∀ v ∈ vs, ones v.cells = true) → (∀ v ∈ vs, v.cells.length = sz) → ∀ x ∈ xs, x.cells.size = sz
 | [], [], _, _, _, _ => by simp
 | v :: vs, x :: xs, sz, h, h1, h2 => by
  simp only [VSL] at h
  intro y hy
  rcases List.mem_cons.1 hy with rfl | hy
  ·have := (cells_of h.1 (h1 v (by simp))).length
   rw [h2 v (by simp)] at this
   simpa using this.symm
  ·exact cells_len h.2 (fun u hu => h1 u (by simp [hu])) (fun u hu => h2 u (by simp [hu])) y hy
 | [], _ :: _, _, h, _, _ => by simp [VSL] at h
 | _ :: _, [], _, h, _, _ => by simp [VSL] at h
theorem flat_len {xs : List Value} {sz : Nat} (h : ∀ x ∈ xs, x.cells.size = sz) : (xs.flatMap (·.cells.toList)).length = xs.length * sz := by
 induction xs with
 | nil => simp
 | cons x xs ih =>
  rw [List.flatMap_cons, List.length_append, ih (fun y hy => h y (by simp [hy])), List.length_cons, Array.length_toList, h x (by simp), Nat.add_mul]
  omega
theorem run_lit {P : Program} {w : World} {T e : TypeId} {ti : TypeInfo} {z : Value} {sz n : Nat} {xs : List Value} (hT : P.underlying T = some (.slice e)) (hi : P.info? e = some ti) (hz : ti.zero = some z) (hs : ti.size = sz) (hn : n = xs.length)
  (hx : ∀ x ∈ xs, x.cells.size = sz) (hb : n * sz ≤ 16777216) :
  (Instr.buildSlice T n (((xs.zipIdx).map fun p => (p.2, p.1)).toArray)).run P w = .ok (.slice (some ⟨w.heap.size, 0, none⟩) n n) (w.alloc (.cells (xs.flatMap (·.cells.toList)).toArray e)) := by
 have hf := fun (cs : Array Value) (h : n * sz ≤ cs.size) => fill_all sz xs 0 cs hx (by rw [Nat.zero_add, ← hn]; exact h)
 unfold Instr.buildSlice
 simp only [Sem.run_bind, run_underlying hT, Result.andThen_ok, sizeOf, typeInfo, run_program, hi, Sem.run_pure, hs]
 rw [if_neg (by omega)]
 have fin : ∀ (zero : Array Value), ((match Instr.fill (fun i => some (i * sz, sz)) ((Array.range (n * sz)).map (zero[· % zero.size]!)) (((xs.zipIdx).map fun p => (p.2, p.1)).toArray).toList with
   | some cells => (do pure (.slice (some (← newRow e cells)) n n) : Sem Value)
   | x => stuck "buildSlice: a part of the wrong size") : Sem Value).run P w = .ok (.slice (some ⟨w.heap.size, 0, none⟩) n n) (w.alloc (.cells (xs.flatMap (·.cells.toList)).toArray e)) := by
  intro zero
  have hh := hf ((Array.range (n * sz)).map (zero[· % zero.size]!)) (by simp)
  have hl := flat_len hx
  rw [hh]
  have hd : ((Array.range (n * sz)).map (zero[· % zero.size]!)).toList.drop ((0 + xs.length) * sz) = [] := List.drop_of_length_le (by simp [hn])
  rw [hd]
  simp [newRow]
 by_cases h0 : n * sz = 0
 ·rw [if_pos h0]
  simp only [Sem.run_bind, Sem.run_pure, Result.andThen_ok]
  exact fin #[]
 ·rw [if_neg h0]
  simp only [Sem.run_bind, zeroValue, typeInfo, run_program, hi, hz, Sem.run_pure, Result.andThen_ok]
  exact fin z.cells
section
variable {P : Program} {N : Nat} {ops : Array Oper} {Q : Exit → TM → GH → Prop} {d : Option Nat} {ty : TypeId} {pos : String} {af : Array Edge} {os : List Oper} {t : TM} {L : GH}
theorem lit_run {a : Act} {w : World} {T e : TypeId} {xs : List Operand} {vs : List AV} {n sz : Nat} {ti : TypeInfo} {z : Value} (hT : P.underlying T = some (.slice e)) (hi : P.info? e = some ti) (hz : ti.zero = some z) (hs : ti.size = sz) (hn : n = xs.length)
  (hv : xs.map (ev t) = vs) (h1 : ∀ v ∈ vs, ones v.cells = true) (h2 : ∀ v ∈ vs, v.cells.length = sz) (hb : n * sz ≤ 16777216) (s : Sim N t L a w) :
  (execOp a.eval ⟨d, .buildSlice T n (partsOf xs).toArray, ty, pos, af, none⟩).run P w = .ok (.value (.slice (some ⟨w.heap.size, 0, none⟩) n n)) (w.alloc (.cells ((xs.map a.eval).flatMap (·.cells.toList)).toArray e)) ∧
   VSL L w (vs.flatMap AV.cells) ((xs.map a.eval).flatMap (·.cells.toList)) ∧ ((xs.map a.eval).flatMap (·.cells.toList)).length = n * sz := by
 subst hv
 have he := evs s xs
 have hc := cells_len he h1 h2
 have hr := run_lit (P := P) (w := w) (n := n) (xs := xs.map a.eval) hT hi hz hs (by simpa using hn) hc hb
 refine ⟨?_, flat_cells he h1, by rw [flat_len hc, List.length_map, hn]⟩
 have hp : (partsOf xs).toArray.map (fun (p : Nat × Operand) => (p.1, a.eval p.2)) = (((xs.map a.eval).zipIdx).map fun p => (p.2, p.1)).toArray := by
  rw [List.map_toArray, partsOf_map]
 simp only [execOp, Sem.run_bind]
 rw [hp, hr]
 rfl
theorem all_ones {vs : List AV} (h1 : ∀ v ∈ vs, ones v.cells = true) : ones (vs.flatMap AV.cells) = true := by
 unfold ones at *
 rw [List.all_flatMap, List.all_eq_true]
 exact h1
theorem JO.litFz {T e : TypeId} {xs : List Operand} {vs cs : List AV} {n sz : Nat} {ti : TypeInfo} {z : Value} (hT : P.underlying T = some (.slice e)) (hi : P.info? e = some ti) (hz : ti.zero = some z) (hs : ti.size = sz) (hn : n = xs.length)
  (hv : xs.map (ev t) = vs) (h1 : ∀ v ∈ vs, ones v.cells = true) (h2 : ∀ v ∈ vs, v.cells.length = sz) (hb : n * sz ≤ 16777216) (hc : vs.flatMap AV.cells = cs) (hd : dok N d = true)
  (K : JO P N ops Q os (t.putO d (.fz n cs)) L) : JO P N ops Q (⟨d, .buildSlice T n (partsOf xs).toArray, ty, pos, af, none⟩ :: os) t L :=
 JO.value (dok_lt hd) fun a w s => by
  subst hc
  obtain ⟨hr, hv', hl⟩ := lit_run (d := d) (ty := ty) (pos := pos) (af := af) hT hi hz hs hn hv h1 h2 hb s
  have hp := Push.alloc w (.cells ((xs.map a.eval).flatMap (·.cells.toList)).toArray e)
  refine ⟨_, _, .fz n (vs.flatMap AV.cells), L, hr, hp.ext L, hp.rows0 s.rows, ?_, K⟩
  simp only [VS]
  refine ⟨_, _, _, rfl, Nat.le_refl _, .inr ⟨_, rfl, fresh_of s.rows, ones_cells (all_ones h1) hv', fun i v hi => ?_⟩, VSL.ext (hp.ext L) _ _ hv'⟩
  rw [add_plain, Nat.zero_add]
  simp only [World.cell?, hp.new]
  simpa using hi
theorem JO.cutFz {T e : TypeId} {x : Operand} {lo hi : Option Operand} {n : Nat} {cs : List AV} {l h : Int} {ti : TypeInfo} (hT : P.underlying T = some (.slice e)) (hI : P.info? e = some ti) (hx : ev t x = .fz n cs)
  (hl : match lo with | some i => ∃ k, ev t i = .p (.int k l) | none => l = 0) (hh : match hi with | some i => ∃ k, ev t i = .p (.int k h) | none => h = n) (hd : dok N d = true)
  (h0 : 0 ≤ l) (h1 : l ≤ h) (h2 : h ≤ n) (hlen : cs.length = n * ti.size) (K : JO P N ops Q os (t.putO d (.fz (h - l).toNat ((cs.drop (l.toNat * ti.size)).take ((h - l).toNat * ti.size)))) L) : JO P N ops Q (⟨d, .slice T x lo hi none, ty, pos, af, none⟩ :: os) t L :=
 JO.still hd (fun a w s => by
  have e1 := s.ev x
  rw [hx] at e1
  simp only [VS] at e1
  obtain ⟨ad, cap, vs, e1, hcap, hca, hv⟩ := e1
  have hrun : (Instr.sliceAt T (.slice ad n cap) (lo.map a.eval) (hi.map a.eval) none).run P w = .ok (.slice (if cap = l.toNat then ad else ad.map (·.add (l.toNat * ti.size))) (h.toNat - l.toNat) (cap - l.toNat)) w := by
   have hc : ((h.toNat : Nat) : Int) = h := by omega
   cases lo with
   | none =>
    simp only at hl
    subst hl
    cases hi with
    | none =>
     simp only at hh
     subst hh
     simp [Instr.sliceAt, run_underlying hT, Instr.slice, Instr.sliceBounds, sizeOf, typeInfo, hI]
    | some i =>
     obtain ⟨k, hh⟩ := hh
     have e2 := s.ev i
     rw [hh] at e2
     simp only [VS] at e2
     simp [e2, Instr.sliceAt, run_underlying hT, Instr.slice, Instr.sliceBounds, run_bound (show 0 ≤ h by omega) (show h ≤ cap by omega), sizeOf, typeInfo, hI]
   | some j =>
    obtain ⟨k', hl⟩ := hl
    have e3 := s.ev j
    rw [hl] at e3
    simp only [VS] at e3
    cases hi with
    | none =>
     simp only at hh
     subst hh
     simp [e3, Instr.sliceAt, run_underlying hT, Instr.slice, Instr.sliceBounds, run_bound h0 h1, sizeOf, typeInfo, hI]
    | some i =>
     obtain ⟨k, hh⟩ := hh
     have e2 := s.ev i
     rw [hh] at e2
     simp only [VS] at e2
     simp [e2, e3, Instr.sliceAt, run_underlying hT, Instr.slice, Instr.sliceBounds, run_bound (show 0 ≤ h by omega) (show h ≤ cap by omega), run_bound (y := h.toNat) h0 (by omega), sizeOf, typeInfo, hI]
  refine ⟨_, by simp only [execOp, e1, Option.map_none, Sem.run_bind, hrun]; rfl, ?_⟩
  simp only [VS]
  have hvl := hv.length
  refine ⟨(if cap = l.toNat then ad else ad.map (·.add (l.toNat * ti.size))), cap - l.toNat, (vs.drop (l.toNat * ti.size)).take ((h - l).toNat * ti.size), ?_, ?_, ?_, VSL.take _ (VSL.drop _ hv)⟩
  ·rw [show (h - l).toNat = h.toNat - l.toNat by omega]
  ·omega
  ·split
   ·rename_i hcl
    left
    have : (h - l).toNat = 0 := by omega
    simp [this]
   ·rcases hca with rfl | ⟨b, rfl, hb1, hb2, hb3⟩
    ·left; simp
    ·have hdr := CellsAt.drop (.inr ⟨b, rfl, hb1, hb2, hb3⟩ : CellsAt L w (some b) vs) (l.toNat * ti.size)
     rcases hdr with hdr | ⟨b', hb', q1, q2, q3⟩
     ·left; simp [hdr]
     ·refine .inr ⟨b', ?_, q1, fun v hv => q2 v (List.mem_of_mem_take hv), fun i v hi => ?_⟩
      ·simpa using hb'
      ·rw [List.getElem?_take] at hi
       split at hi
       ·exact q3 i v hi
       ·cases hi) K
theorem JO.field {T : TypeId} {x : Operand} {i : Nat} {cs : List AV} {fs : Array Field} {f : Field} {u : TypeDesc} {v : AV} (hT : P.underlying T = some (.struct fs)) (hf : fs[i]? = some f) (hu : P.underlying f.type = some u)
  (ha : (match u with | .struct _ | .array _ _ => true | _ => false) = false) (hx : ev t x = .agg cs) (hc : cs[f.offset]? = some v) (hd : dok N d = true)
  (K : JO P N ops Q os (t.putO d v) L) : JO P N ops Q (⟨d, .field T x i, ty, pos, af, none⟩ :: os) t L :=
 JO.still hd (fun a w s => by
  have e1 := s.ev x
  rw [hx] at e1
  simp only [VS] at e1
  obtain ⟨vs, e1, hv⟩ := e1
  obtain ⟨z, hz, hvz⟩ := hv.get _ v hc
  have hagg : (isAgg f.type).run P w = .ok false w := by
   unfold isAgg
   simp only [Sem.run_bind, run_underlying hu, Result.andThen_ok]
   cases u <;> simp_all
  refine ⟨z, ?_, hvz⟩
  simp [execOp, e1, Instr.field, run_underlying hT, hf, asAgg, part, hagg, hz]) K
end
end Go.Proofs.YtaglpckihegmoaaDoorAv
namespace Go.Proofs.YtaglpckihegmoaaDoorAv
open Go Go.RowKit
def puts (t : TM) : List (Nat × AV) → TM
 | [] => t
 | (d, v) :: l => (puts t l).put d v
def Eta (t : TM) : List (Nat × AV) → Prop
 | [] => True
 | (d, v) :: l => t d = v ∧ Eta t l
theorem TM.put_eta {t : TM} {d : Nat} {v : AV} (h : t d = v) : t.put d v = t := by
 funext i
 unfold TM.put
 split
 ·rename_i e; rw [e, h]
 ·rfl
theorem puts_eta {t : TM} : ∀ {l : List (Nat × AV)}, Eta t l → puts t l = t
 | [], _ => rfl
 | (d, v) :: l, h => by
  simp only [Eta] at h
  simp only [puts]
  rw [puts_eta h.2, TM.put_eta h.1]
theorem J.keep {P : Program} {N : Nat} {c : Code} {Q : Exit → TM → GH → Prop} {t : TM} {L : GH} (l : List (Nat × AV)) (ht : Eta t l) (h : ∀ t, J P N c Q (puts t l) L) : J P N c Q t L := by
 have := h t
 rwa [puts_eta ht] at this
theorem wrap64_in {n : Int} (h0 : -9223372036854775808 ≤ n) (h1 : n ≤ 9223372036854775807) : IntKind.i64.wrap n = n := by rw [IntKind.wrap_i64]; omega
theorem wrap8_in {n : Int} (h0 : 0 ≤ n) (h1 : n ≤ 255) : IntKind.u8.wrap n = n := by rw [IntKind.wrap_u8]; omega
section
variable {P : Program} {N : Nat} {ops : Array Oper} {Q : Exit → TM → GH → Prop} {d : Option Nat} {ty : TypeId} {pos : String} {af : Array Edge} {os : List Oper} {t : TM} {L : GH}
end
def TI (P : Program) (T : TypeId) (z : Value) (sz b : Nat) : Prop := (P.info? T).map (fun i => (i.zero, i.size, i.bytes)) = some (some z, sz, b)
theorem TI.get {P : Program} {T : TypeId} {z : Value} {sz b : Nat} (h : TI P T z sz b) : ∃ ti, P.info? T = some ti ∧ ti.zero = some z ∧ ti.size = sz ∧ ti.bytes = b := by
 unfold TI at h
 cases hi : P.info? T with
 | none => simp [hi] at h
 | some i =>
  simp only [hi, Option.map_some, Option.some.injEq, Prod.mk.injEq] at h
  exact ⟨i, rfl, h.1, h.2.1, h.2.2⟩
section
variable {P : Program} {N : Nat} {ops : Array Oper} {Q : Exit → TM → GH → Prop} {d : Option Nat} {ty : TypeId} {pos : String} {af : Array Edge} {os : List Oper} {t : TM} {L : GH}
theorem R.idxSl {T e : TypeId} {x i : Operand} {g sz off n b : Nat} {z : Value} {k : IntKind} {j : Int} (hT : P.underlying T = some (.slice e)) (hI : TI P e z sz b)
  (hx : ev t x = .sl g sz off n) (hj : ev t i = .p (.int k j)) (hd : dok N d = true) (h0 : 0 ≤ j) (h1 : j < n)
  (K : JO P N ops Q os (t.putO d (.ptr g (off + j.toNat * sz))) L) : JO P N ops Q (⟨d, .indexAddr T x i, ty, pos, af, none⟩ :: os) t L := by
 obtain ⟨ti, hi, hz, hs, hb⟩ := hI.get
 exact JO.idxSl hT hi hs hx hj hd h0 h1 K
theorem R.idxFz {T e : TypeId} {x i : Operand} {n sz b : Nat} {z : Value} {cs : List AV} {k : IntKind} {j : Int} (hT : P.underlying T = some (.slice e)) (hI : TI P e z sz b)
  (hx : ev t x = .fz n cs) (hj : ev t i = .p (.int k j)) (hd : dok N d = true) (h0 : 0 ≤ j) (h1 : j < n) (hc : cs ≠ [])
  (K : JO P N ops Q os (t.putO d (.fp (cs.drop (j.toNat * sz)))) L) : JO P N ops Q (⟨d, .indexAddr T x i, ty, pos, af, none⟩ :: os) t L := by
 obtain ⟨ti, hi, hz, rfl, hb⟩ := hI.get
 exact JO.idxFz hT hi hx hj hd h0 h1 hc K
theorem R.st {T : TypeId} {x y : Operand} {g off sz b : Nat} {z : Value} {r : Row} {cs : List AV} (hI : TI P T z sz b) (hs : sz = cs.length)
  (hx : ev t x = .ptr g off) (hr : L g = some r) (hy : (ev t y).cells = cs) (h1 : ones cs = true) (hle : off + cs.length ≤ r.cs.length)
  (K : JO P N ops Q os t (upd L g ⟨r.e, r.ap, r.cs.take off ++ cs ++ r.cs.drop (off + cs.length)⟩)) (hb' : r.isc := by first | exact trivial | assumption) : JO P N ops Q (⟨none, .store T x y, ty, pos, af, none⟩ :: os) t L := by
 obtain ⟨ti, hi, hz, h2, hb⟩ := hI.get
 exact JO.st hi (h2.trans hs) hx hr hy h1 hle K hb'
theorem R.append {T e : TypeId} {x y : Operand} {og : Option Nat} {cs ys : List AV} {sz n m b : Nat} {z : Value} {L0 : GH} (hT : P.underlying T = some (.slice e)) (hI : TI P e z sz b) (hzz : z.cells.size = sz)
  (hF : Fre L0 og) (hx : ev t x = hv og sz n) (hnil : og = none → cs = [] ∧ n = 0) (hl : cs.length = n * sz) (hy : srcOf (updo L0 og ⟨e, true, cs⟩) (ev t y) = some (m, ys)) (hm : ys.length = m * sz) (h1 : ones ys = true)
  (hb : (n + m) * b ≤ 140737488355328) (hb2 : n + m ≤ 140737488355328) (hsz : 0 < sz) (hd : dok N d = true)
  (K : ∀ og', Fre L0 og' → (og' = none → cs ++ ys = [] ∧ n + m = 0) → JO P N ops Q os (t.putO d (hv og' sz (n + m))) (updo L0 og' ⟨e, true, cs ++ ys⟩)) :
  JO P N ops Q (⟨d, .call { callee := .builtin .append, args := #[x, y], argTypes := #[T, T] }, ty, pos, af, none⟩ :: os) t (updo L0 og ⟨e, true, cs⟩) := by
 obtain ⟨ti, hi, hz, hs, rfl⟩ := hI.get
 exact JO.append hT hi hz hs hzz hF hx hnil hl hy hm h1 hb hb2 hsz hd K
theorem R.litFz {T e : TypeId} {xs : List Operand} {vs cs : List AV} {n sz b : Nat} {z : Value} (hT : P.underlying T = some (.slice e)) (hI : TI P e z sz b) (hn : n = xs.length)
  (hv : xs.map (ev t) = vs) (h1 : ∀ v ∈ vs, ones v.cells = true) (h2 : ∀ v ∈ vs, v.cells.length = sz) (hb : n * sz ≤ 16777216) (hc : vs.flatMap AV.cells = cs) (hd : dok N d = true)
  (K : JO P N ops Q os (t.putO d (.fz n cs)) L) : JO P N ops Q (⟨d, .buildSlice T n (partsOf xs).toArray, ty, pos, af, none⟩ :: os) t L := by
 obtain ⟨ti, hi, hz, hs, hb'⟩ := hI.get
 exact JO.litFz hT hi hz hs hn hv h1 h2 hb hc hd K
end
section
variable {P : Program} {N : Nat} {ops : Array Oper} {Q : Exit → TM → GH → Prop} {d : Option Nat} {ty : TypeId} {pos : String} {af : Array Edge} {os : List Oper} {t : TM} {L : GH}
theorem R.on {j s : Nat} {b c : Bool} {op : Op} (hs : decide (s < N) = true) (hj : (ops[j]?).bind (·.dst) = some s) (ht : ev t (.tmp s) = .p (.bool c)) (hc : (c == b) = true)
  (h : JO P N ops Q (⟨d, op, ty, pos, af, none⟩ :: os) t L) : JO P N ops Q (⟨d, op, ty, pos, af, some (j, b)⟩ :: os) t L := JO.on (of_decide_eq_true hs) hj ht hc h
theorem R.off {d j s : Nat} {b c : Bool} {op : Op} (hd : decide (d < N) = true) (hs : decide (s < N) = true) (hj : (ops[j]?).bind (·.dst) = some s) (ht : ev t (.tmp s) = .p (.bool c)) (hc : (c == b) = false)
  (h : JO P N ops Q os (t.putO (some d) (.p undef)) L) : JO P N ops Q (⟨some d, op, ty, pos, af, some (j, b)⟩ :: os) t L := JO.off (of_decide_eq_true hd) (of_decide_eq_true hs) hj ht hc h
theorem R.offU {d j s : Nat} {b : Bool} {op : Op} (hd : decide (d < N) = true) (hs : decide (s < N) = true) (hj : (ops[j]?).bind (·.dst) = some s) (ht : ev t (.tmp s) = .p undef)
  (h : JO P N ops Q os (t.putO (some d) (.p undef)) L) : JO P N ops Q (⟨some d, op, ty, pos, af, some (j, b)⟩ :: os) t L := JO.offU (of_decide_eq_true hd) (of_decide_eq_true hs) hj ht h
end
theorem J.ifT {P : Program} {N : Nat} {o : Operand} {x y : Code} {Q : Exit → TM → GH → Prop} {t : TM} {L : GH} (ho : ev t o = .p (.bool true)) (h : J P N x Q t L) : J P N (.cond o x y) Q t L := J.cond ho (fun _ => h) (fun h => by cases h)
theorem J.ifF {P : Program} {N : Nat} {o : Operand} {x y : Code} {Q : Exit → TM → GH → Prop} {t : TM} {L : GH} (ho : ev t o = .p (.bool false)) (h : J P N y Q t L) : J P N (.cond o x y) Q t L := J.cond ho (fun h => by cases h) (fun _ => h)
def strAV (s : ByteArray) : AV := .p (.string s)
def boolAV (b : Bool) : AV := .p (.bool b)
def intAV (i : Int) : AV := .p (.int .i64 i)
end Go.Proofs.YtaglpckihegmoaaDoorAv
namespace Go.Proofs.YtaglpckihegmoaaDoorAv
open Go Go.RowKit
theorem freeze_VS {L : GH} {w : World} {og : Option Nat} {r : Row} {sz n : Nat} {x : Value} (hF : Fre L og) (hr : ∀ g s, updo L og r g = some s → RowR (updo L og r) w g s) (hnil : og = none → r.cs = [] ∧ n = 0) (hl : r.cs.length = n * sz)
  (hx : VS (updo L og r) w (hv og sz n) x) : VS L w (.fz n r.cs) x := by
 cases og with
 | none =>
  simp only [hv, VS] at hx ⊢
  obtain ⟨h1, h2⟩ := hnil rfl
  rw [h1, h2]
  exact ⟨none, 0, [], hx, Nat.le_refl _, .inl rfl, by simp [VSL]⟩
 | some g =>
  simp only [hv, VS] at hx ⊢
  obtain ⟨a, cap, rfl, hn, hc⟩ := hx
  rcases (hr g r (upd_same _ _ _)).cs with hrc | hrc
  case inr =>
   rw [hrc]
   exact ⟨a, cap, [], rfl, hn, .inl rfl, by simp [VSL]⟩
  obtain ⟨c, fr, vs, hh, _, _, hle, hvs, hv, h1⟩ := hrc
  have hd : ∀ b, updo L (some g) r b = none → L b = none := fun b hb => (updo_none hb).2
  refine ⟨a, cap, vs, rfl, hn, ?_, VSL.ext (Ext.drop w hd) _ _ hv⟩
  rcases hc with hc | ⟨rfl, _⟩
  ·left
   have : n = 0 := by omega
   rw [this, Nat.zero_mul] at hl
   have := hv.length
   exact List.length_eq_zero_iff.1 (by omega)
  ·refine .inr ⟨_, rfl, hF g rfl, h1, fun i v hi => ?_⟩
   rw [add_plain, Nat.zero_add]
   rw [hvs, List.getElem?_take] at hi
   split at hi
   ·simp only [World.cell?, hh]
    simpa using hi
   ·cases hi
theorem J.freeze {P : Program} {N : Nat} {c : Code} {Q : Exit → TM → GH → Prop} {t : TM} {L : GH} {og : Option Nat} {r : Row} {sz n : Nat} (s : Nat) (hF : Fre L og) (ht : t s = hv og sz n) (hnil : og = none → r.cs = [] ∧ n = 0) (hl : r.cs.length = n * sz)
  (h : J P N c Q (t.put s (.fz n r.cs)) L) : J P N c Q t (updo L og r) := by
 intro ro L0 w0 a w he hs
 have hd : ∀ b, updo L og r b = none → L b = none := fun b hb => (updo_none hb).2
 have hx := Ext.drop w hd
 have hs' := hs.ext hx (fun g q hg => by
  cases og with
  | none => exact (hs.rows g q hg).ext hx rfl
  | some g0 =>
   have hne : g ≠ g0 := by rintro rfl; rw [hF g rfl] at hg; cases hg
   exact (hs.rows g q (by show upd L g0 r g = some q; rw [upd_ne _ _ _ _ hne]; exact hg)).ext hx rfl)
 refine h ro L0 w0 a w (he.trans hx) ⟨fun i => ?_, hs'.rows, hs'.size, hs'.df⟩
 unfold TM.put
 split
 ·rename_i e
  subst e
  have := hs.tm i
  rw [ht] at this
  exact freeze_VS hF hs.rows hnil hl this
 ·exact hs'.tm i
theorem J.cut {P : Program} {N : Nat} {x y : Code} {Q : Exit → TM → GH → Prop} {t : TM} {L : GH} (l : List (Nat × AV)) (L1 : GH) (h1 : J P N x (thn (fun t' L' => Eta t' l ∧ L' = L1) Q) t L) (h2 : ∀ t, J P N y Q (puts t l) L1) : J P N (.seq x y) Q t L := by
 refine J.seq (h1.mono ?_)
 intro e t L q
 cases e with
 | normal =>
  obtain ⟨q, rfl⟩ := q
  exact J.keep l q h2
 | exit id => exact q
 | goto l => exact q
 | ret => exact q
 | panic ch => exact q
 | outgrown => exact q
def noL : GH := fun _ => none
theorem JF.calls {P : Program} {f : FuncId} {args : List AV} (h : JF P f args noL (fun v L' => v = boolAV true ∧ L' = noL)) (W : World) (hg : Glb noL W) (xs : List Value) (hv : VSL noL W args xs) :
  Calls P f xs.toArray W fun e W' => e = .returned (.bool true) ∧ Below W.heap.size W W' :=
 (h W xs hg hv (fun g r h => by cases h)).mono fun e w' ⟨v, x, L', he, hx, _, hxt, h1, _⟩ => by
  subst h1
  simp only [boolAV, VS] at hx
  subst hx
  exact ⟨he, hxt.os, hxt.tape, hxt.output, hxt.size, fun b hb => hxt.keep b hb rfl⟩
end Go.Proofs.YtaglpckihegmoaaDoorAv
namespace Go.Proofs.YtaglpckihegmoaaDoorAv
open Go Go.RowKit
theorem upon_conv {P : Program} {o : Oper} {a : Act} {w : World} {K K' : Act → World → Prop} {Q Q' : Exit → Act → World → Prop} {F : Fence} {n : Nat} (h : ∀ a w, K a w → K' a w) (hq : ∀ e a w, Q e a w → e = .normal)
  (hh : o.wpIn F n P a w K Q) : o.wpIn F n P a w K' Q' := by
 unfold Oper.wpIn at *
 refine ⟨hh.1, ?_⟩
 have hh := hh.2
 generalize (o.semAt F.round a.eval).run P w = r at *
 cases r with
 | ok x w' =>
  cases x <;> simp only [Oper.uponIn] at hh ⊢ <;>
   first
    | exact h _ _ hh
    | exact ⟨hh.1, CallsIn.mono hh.2 (fun e w'' he => by
      cases e with
      | returned v => exact h _ _ he
      | panicked c => exact absurd (hq _ _ _ he) (by simp)
      | outgrown => obtain ⟨a, w, he⟩ := he; exact absurd (hq _ _ _ he) (by simp))⟩
    | exact ⟨hh.1, RowsIn.mono hh.2 (fun _ _ he => h _ _ he)⟩
    | exact ⟨hh.1, RoundIn.mono hh.2 (fun e w'' he => by
      cases e with
      | returned v => exact h _ _ he
      | panicked c => exact absurd (hq _ _ _ he) (by simp)
      | outgrown => obtain ⟨a, w, he⟩ := he; exact absurd (hq _ _ _ he) (by simp))⟩
 | halt x w' =>
  cases x <;> simp only [Oper.uponIn] at hh ⊢
  exact absurd (hq _ _ _ hh) (by simp)
section
variable {P : Program} {N : Nat} {ops : Array Oper} {Q : Exit → TM → GH → Prop} {ty : TypeId} {pos : String} {af : Array Edge} {os : List Oper} {t : TM} {L : GH} {d j s : Nat} {op : Op} {v : AV}
theorem JO.pick {x a b : Operand} {c : Bool} {A B v : AV} {dd : Option Nat} (hc : ev t x = .p (.bool c)) (ha : c = true → ev t a = A) (hb : (!c) = true → ev t b = B) (hv : (bif c then A else B) = v) (hd : dok N dd = true)
  (k : JO P N ops Q os (t.putO dd v) L) : JO P N ops Q (⟨dd, .pick x a b, ty, pos, af, none⟩ :: os) t L := by
 cases c with
 | true =>
  have h1 := ha rfl
  subst h1
  subst hv
  exact JO.pure (by simp only [fv, hc, cond_true, cond_false]) hd k
 | false =>
  have h1 := hb rfl
  subst h1
  subst hv
  exact JO.pure (by simp only [fv, hc, cond_true, cond_false]) hd k
theorem JO.callV {f : FuncId} {fn : Func} {c : Code} {xs : List Operand} {tys : Array TypeId} {dd : Option Nat} (hf : P.funcs[f]? = some fn) (hb : fn.body = some c) (hr : (fn.name == "runtime.NumGoroutine") = false)
  (hd : dok N dd = true) (h : JF P f (xs.map (ev t)) L (fun v' L' => v' = v ∧ L' = L)) (K : JO P N ops Q os (t.putO dd v) L) :
  JO P N ops Q (⟨dd, .call { callee := .value (.func f), args := xs.toArray, argTypes := tys }, ty, pos, af, none⟩ :: os) t L :=
 JO.call hf hb hr hd h fun v' L' ⟨h1, h2⟩ => by rw [h1, h2]; exact K
end
end Go.Proofs.YtaglpckihegmoaaDoorAv
namespace Go.Proofs.YtaglpckihegmoaaDoorAv
open Go Go.RowKit
section
variable {P : Program} {N : Nat} {ops : Array Oper} {Q : Exit → TM → GH → Prop} {d : Option Nat} {ty : TypeId} {pos : String} {af : Array Edge} {os : List Oper} {t : TM} {L : GH}
theorem run_fieldPlace {w : World} {a : Addr} {f : Field} {z : Value} {sz b : Nat} (hI : TI P f.type z (sz + 1) b) : (fieldPlace a f).run P w = .ok (a.add f.offset) w := by
 obtain ⟨ti, hi, -, hs, -⟩ := hI.get
 simp [fieldPlace, sizeOf, typeInfo, hi, hs]
theorem JO.fieldAddr {T : TypeId} {x : Operand} {i g off sz b : Nat} {fs : Array Field} {f : Field} {z : Value} (hT : P.underlying T = some (.struct fs)) (hf : fs[i]? = some f) (hI : TI P f.type z (sz + 1) b)
  (hx : ev t x = .ptr g off) (hd : dok N d = true) (K : JO P N ops Q os (t.putO d (.ptr g (off + f.offset))) L) : JO P N ops Q (⟨d, .fieldAddr T x i, ty, pos, af, none⟩ :: os) t L :=
 JO.still hd (fun a w s => by
  have e1 := s.ev x
  rw [hx] at e1
  simp only [VS] at e1
  exact ⟨_, by simp only [execOp, e1, Instr.fieldAt, Sem.run_bind, run_underlying hT, Result.andThen_ok, hf, Instr.sureAddr, Sem.run_pure, run_fieldPlace hI]; rfl, by simp [VS, add_plain]⟩) K
theorem JO.fieldFp {T : TypeId} {x : Operand} {i sz b : Nat} {fs : Array Field} {f : Field} {z : Value} {cs : List AV} (hT : P.underlying T = some (.struct fs)) (hf : fs[i]? = some f) (hI : TI P f.type z (sz + 1) b)
  (hx : ev t x = .fp cs) (hd : dok N d = true) (K : JO P N ops Q os (t.putO d (.fp (cs.drop f.offset))) L) : JO P N ops Q (⟨d, .fieldAddr T x i, ty, pos, af, none⟩ :: os) t L :=
 JO.still hd (fun a w s => by
  have e1 := s.ev x
  rw [hx] at e1
  simp only [VS] at e1
  obtain ⟨ad, vs, e1, hc, hv⟩ := e1
  refine ⟨.pointer (some (ad.add f.offset)), by simp only [execOp, e1, Instr.fieldAt, Sem.run_bind, run_underlying hT, Result.andThen_ok, hf, Instr.sureAddr, Sem.run_pure, run_fieldPlace hI], ?_⟩
  simp only [VS]
  exact ⟨_, _, rfl, hc.drop _, hv.drop _⟩) K
theorem JO.idxArr {T e : TypeId} {x i : Operand} {g off n sz b : Nat} {z : Value} {k : IntKind} {j : Int} (hT : P.underlying T = some (.array n e)) (hI : TI P e z sz b)
  (hx : ev t x = .ptr g off) (hj : ev t i = .p (.int k j)) (hd : dok N d = true) (h0 : 0 ≤ j) (h1 : j < n)
  (K : JO P N ops Q os (t.putO d (.ptr g (off + j.toNat * sz))) L) : JO P N ops Q (⟨d, .indexAddr T x i, ty, pos, af, none⟩ :: os) t L :=
 JO.still hd (fun a w s => by
  have e1 := s.ev x
  have e2 := s.ev i
  rw [hx] at e1
  rw [hj] at e2
  simp only [VS] at e1 e2
  obtain ⟨ti, hi, -, hs, -⟩ := hI.get
  refine ⟨.pointer (some ⟨g, off + j.toNat * sz, none⟩), ?_, by simp [VS]⟩
  simp [execOp, e1, e2, Instr.indexAt, asIntOf, run_underlying hT, Instr.sureAddr, h0, h1, sizeOf, typeInfo, hi, hs, add_plain]) K
theorem JO.idxArrFp {T e : TypeId} {x i : Operand} {n sz b : Nat} {z : Value} {k : IntKind} {j : Int} {cs : List AV} (hT : P.underlying T = some (.array n e)) (hI : TI P e z sz b)
  (hx : ev t x = .fp cs) (hj : ev t i = .p (.int k j)) (hd : dok N d = true) (h0 : 0 ≤ j) (h1 : j < n)
  (K : JO P N ops Q os (t.putO d (.fp (cs.drop (j.toNat * sz)))) L) : JO P N ops Q (⟨d, .indexAddr T x i, ty, pos, af, none⟩ :: os) t L :=
 JO.still hd (fun a w s => by
  have e1 := s.ev x
  have e2 := s.ev i
  rw [hx] at e1
  rw [hj] at e2
  simp only [VS] at e1 e2
  obtain ⟨ti, hi, -, hs, -⟩ := hI.get
  obtain ⟨ad, vs, e1, hc, hv⟩ := e1
  refine ⟨.pointer (some (ad.add (j.toNat * sz))), ?_, ?_⟩
  ·simp [execOp, e1, e2, Instr.indexAt, asIntOf, run_underlying hT, Instr.sureAddr, h0, h1, sizeOf, typeInfo, hi, hs]
  ·simp only [VS]
   exact ⟨_, _, rfl, hc.drop _, hv.drop _⟩) K
def aggT : TypeDesc → Bool
 | .struct _ => true
 | .array _ _ => true
 | _ => false
theorem JO.ldOwnA {T : TypeId} {x : Operand} {g off : Nat} {r : Row} {v : AV} {u : TypeDesc} (hT : P.underlying T = some u) (ha : aggT u = false)
  (hx : ev t x = .ptr g off) (hr : L g = some r) (hc : r.cs[off]? = some v) (hd : dok N d = true) (K : JO P N ops Q os (t.putO d v) L) : JO P N ops Q (⟨d, .load T x, ty, pos, af, none⟩ :: os) t L :=
 JO.ldOwn hT (by cases u <;> simp_all [aggT]) hx hr hc hd K
theorem run_loadAgg {w : World} {T : TypeId} {u : TypeDesc} {z : Value} {b : Nat} {ad : Addr} {vs : List Value} (hT : P.underlying T = some u) (ha : aggT u = true) (hI : TI P T z vs.length b) (h : ∀ j v, vs[j]? = some v → w.cell? (ad.add j) = some v) :
  (loadVar T ad).run P w = .ok (.agg vs.toArray) w := by
 obtain ⟨ti, hi, -, hs, -⟩ := hI.get
 have hagg : (isAgg T).run P w = .ok true w := by
  unfold isAgg
  simp only [Sem.run_bind, run_underlying hT, Result.andThen_ok]
  cases u <;> simp_all [aggT]
 simp [loadVar, hagg, sizeOf, typeInfo, hi, hs, run_loadCells_list w ad vs h]
theorem own_cells {w : World} {g off : Nat} {r : Row} {cs : List AV} (h : RowR L w g r) (hc : (r.cs.drop off).take cs.length = cs) (hle : off + cs.length ≤ r.cs.length) :
  ∃ vs : List Value, VSL L w cs vs ∧ ∀ j v, vs[j]? = some v → w.cell? ((⟨g, off, none⟩ : Addr).add j) = some v := by
 rcases h.cs with h | h
 case inr =>
  rw [h] at hle
  have : cs = [] := List.eq_nil_of_length_eq_zero (Nat.eq_zero_of_le_zero (Nat.le_trans (Nat.le_add_left _ _) hle))
  subst this
  exact ⟨[], by simp [VSL], by simp⟩
 obtain ⟨c, fr, vs, hh, _, _, hl, hvs, hv, _⟩ := h
 refine ⟨(vs.drop off).take cs.length, by rw [← hc]; have := (hv.drop off).take cs.length; rwa [hc] at this ⊢, fun j v hj => ?_⟩
 rw [List.getElem?_take] at hj
 split at hj
 ·rename_i hlt
  rw [List.getElem?_drop, hvs, List.getElem?_take, if_pos (by omega)] at hj
  rw [add_plain]
  simp only [World.cell?, hh]
  simpa using hj
 ·cases hj
theorem JO.ldAgg {T : TypeId} {x : Operand} {g off b : Nat} {r : Row} {cs : List AV} {u : TypeDesc} {z : Value} (hT : P.underlying T = some u) (ha : aggT u = true) (hI : TI P T z cs.length b)
  (hx : ev t x = .ptr g off) (hr : L g = some r) (hc : (r.cs.drop off).take cs.length = cs) (hle : off + cs.length ≤ r.cs.length) (hd : dok N d = true) (K : JO P N ops Q os (t.putO d (.agg cs)) L) :
  JO P N ops Q (⟨d, .load T x, ty, pos, af, none⟩ :: os) t L :=
 JO.still hd (fun a w s => by
  have e1 := s.ev x
  rw [hx] at e1
  simp only [VS] at e1
  obtain ⟨vs, hv, hcell⟩ := own_cells (s.rows g r hr) hc hle
  have hl := hv.length
  rw [hl] at hI
  refine ⟨.agg vs.toArray, ?_, by simp only [VS]; exact ⟨vs, rfl, hv⟩⟩
  simp [execOp, e1, Instr.loadAt, Instr.sureAddr, run_loadAgg hT ha hI hcell]) K
theorem JO.ldAggFp {T : TypeId} {x : Operand} {b : Nat} {cs ds : List AV} {u : TypeDesc} {z : Value} (hT : P.underlying T = some u) (ha : aggT u = true) (hI : TI P T z cs.length b)
  (hx : ev t x = .fp ds) (hc : ds.take cs.length = cs) (hd : dok N d = true) (K : JO P N ops Q os (t.putO d (.agg cs)) L) :
  JO P N ops Q (⟨d, .load T x, ty, pos, af, none⟩ :: os) t L :=
 JO.still hd (fun a w s => by
  have e1 := s.ev x
  rw [hx] at e1
  simp only [VS] at e1
  obtain ⟨ad, vs, e1, hca, hv⟩ := e1
  have hv2 := hv.take cs.length
  rw [hc] at hv2
  have hl := hv2.length
  have hcell : ∀ j v, (vs.take cs.length)[j]? = some v → w.cell? (ad.add j) = some v := by
   intro j v hj
   rw [List.getElem?_take] at hj
   split at hj
   ·rcases hca with rfl | ⟨b, hb, _, _, h⟩
    ·simp at hj
    ·obtain rfl := Option.some.inj hb
     exact h j v hj
   ·cases hj
  have hI' : TI P T z (vs.take cs.length).length b := by rw [← hl]; exact hI
  refine ⟨.agg (vs.take cs.length).toArray, ?_, by simp only [VS]; exact ⟨_, rfl, hv2⟩⟩
  simp [execOp, e1, Instr.loadAt, Instr.sureAddr, run_loadAgg hT ha hI' hcell]) K
theorem R.alloc {T : TypeId} {z : Value} {sz b : Nat} {cs : List AV} (hI : TI P T z sz b) (hc : z.cells.toList.map AV.p = cs) (h1 : ones cs = true) (hd : dok N d = true)
  (K : ∀ g, L g = none → JO P N ops Q os (t.putO d (.ptr g 0)) (upd L g ⟨T, true, cs⟩)) : JO P N ops Q (⟨d, .alloc T, ty, pos, af, none⟩ :: os) t L :=
 JO.new (fun g => .ptr g 0) hd (fun a w s => by
  obtain ⟨i, hi, hz, -, -⟩ := hI.get
  have hv : VSL L w cs z.cells.toList := by
   rw [← hc]
   generalize z.cells.toList = l
   induction l with
   | nil => simp [VSL]
   | cons x l ih => simp only [List.map_cons, VSL, VS]; exact ⟨trivial, ih⟩
  refine ⟨w.alloc (.cells z.cells T), (0, 0), z.cells.toList, [], .pointer (some ⟨w.heap.size, 0, none⟩), ?_, fun _ => rfl, fun o _ => by simp, ?_, hv, ones_cells h1 hv, fun L' => by simp [VS]⟩
  ·simpa using Push.alloc w (.cells z.cells T)
  ·simp [execOp, Instr.alloc, zeroValue, typeInfo, hi, hz, newVar, newRow]) K
def laid (pl : List (Nat × Nat)) : List AV → List (Nat × List AV) → Option (List AV)
 | zs, [] => some zs
 | zs, (i, cs) :: rest =>
  match pl[i]? with
  | none => none
  | some (off, sz) => if cs.length = sz ∧ off + cs.length ≤ zs.length then laid pl (zs.take off ++ cs ++ zs.drop (off + cs.length)) rest else none
theorem fill_laid {w : World} {pl : List (Nat × Nat)} : ∀ (parts : List (Nat × Value)) (avs : List (Nat × List AV)) (zs out : List AV) (cells : Array Value), VSL L w zs cells.toList →
  avs.map (·.1) = parts.map (·.1) → (∀ (i : Nat) (p : Nat × Value) (q : Nat × List AV), parts[i]? = some p → avs[i]? = some q → VSL L w q.2 p.2.cells.toList) → laid pl zs avs = some out →
  ∃ res : Array Value, Instr.fill (fun x => pl[x]?) cells parts = some res ∧ VSL L w out res.toList
 | [], [], zs, out, cells, hz, _, _, h => by
  simp only [laid, Option.some.injEq] at h
  subst h
  exact ⟨cells, rfl, hz⟩
 | (i, v) :: parts, (i', cs) :: avs, zs, out, cells, hz, hm, hp, h => by
  simp only [List.map_cons, List.cons.injEq] at hm
  obtain ⟨rfl, hm⟩ := hm
  simp only [laid] at h
  have hv := hp 0 (i', v) (i', cs) rfl rfl
  simp only at hv
  cases hpl : pl[i']? with
  | none => simp [hpl] at h
  | some os =>
   obtain ⟨off, sz⟩ := os
   simp only [hpl] at h
   split at h
   ·rename_i hc
    have hl := hv.length
    have hzl := hz.length
    simp only [Array.length_toList] at hl hzl
    have hfold : v.cells.zipIdx.foldl (fun (cs : Array Value) (p : Value × Nat) => cs.setIfInBounds (off + p.2) p.1) cells = (cells.toList.take off ++ v.cells.toList ++ cells.toList.drop (off + v.cells.toList.length)).toArray := by
     have := foldl_set off v.cells.toList 0 cells (by simp; omega)
     rw [← Array.foldl_toList, Array.toList_zipIdx]
     simpa using this
    obtain ⟨res, hr, ho⟩ := fill_laid parts avs _ out (cells.toList.take off ++ v.cells.toList ++ cells.toList.drop (off + v.cells.toList.length)).toArray (by
     have h3 := ((hz.take off).append hv).append (hz.drop (off + cs.length))
     rw [hv.length] at h3
     rw [hv.length]
     simpa using h3) hm (fun k p q h1 h2 => hp (k + 1) p q (by simpa using h1) (by simpa using h2)) h
    refine ⟨res, ?_, ho⟩
    simp only [Instr.fill, hpl]
    rw [if_neg]
    ·rw [← hr]
     congr 1
    ·simp; omega
   ·cases h
 | [], _ :: _, _, _, _, _, hm, _, _ => by simp at hm
 | _ :: _, [], _, _, _, _, hm, _, _ => by simp at hm
theorem JO.build {T : TypeId} {parts : List (Nat × Operand)} {fs : Array Field} {pl : List (Nat × Nat)} {z : Value} {sz b : Nat} {zs out : List AV} (hT : P.underlying T = some (.struct fs)) (hI : TI P T z sz b)
  (hp : fs.toList.mapM (fun f => (P.info? f.type).map fun i => (f.offset, i.size)) = some pl) (hz : z.cells.toList.map AV.p = zs) (h1 : ∀ p ∈ parts, ones (ev t p.2).cells = true)
  (ho : laid pl zs (parts.map fun p => (p.1, (ev t p.2).cells)) = some out) (hd : dok N d = true) (K : JO P N ops Q os (t.putO d (.agg out)) L) :
  JO P N ops Q (⟨d, .build T parts.toArray, ty, pos, af, none⟩ :: os) t L :=
 JO.still hd (fun a w s => by
  obtain ⟨ti, hi, hzz, -, -⟩ := hI.get
  have hzv : VSL L w zs z.cells.toList := by
   rw [← hz]
   generalize z.cells.toList = l
   induction l with
   | nil => simp [VSL]
   | cons x l ih => simp only [List.map_cons, VSL, VS]; exact ⟨trivial, ih⟩
  obtain ⟨res, hr, hv⟩ := fill_laid (w := w) (L := L) (pl := pl) (parts.map fun p => (p.1, a.eval p.2)) (parts.map fun p => (p.1, (ev t p.2).cells)) zs out z.cells hzv (by simp) (by
   intro i p q h2 h3
   rw [List.getElem?_map] at h2 h3
   cases hi : parts[i]? with
   | none => rw [hi] at h2; cases h2
   | some o =>
    rw [hi] at h2 h3
    obtain rfl := Option.some.inj h2
    obtain rfl := Option.some.inj h3
    exact cells_of (s.ev o.2) (h1 o (List.mem_of_getElem? hi))) ho
  have hb : P.built T (parts.map fun p => (p.1, a.eval p.2)) = some res := by
   simp only [Program.built, hi, hT, hzz, hp]
   rw [← hr]
   congr 1
   funext x
   simp
  refine ⟨.agg res, ?_, by simp only [VS]; exact ⟨res.toList, by simp, hv⟩⟩
  have := run_build (P := P) w T (parts.map fun p => (p.1, a.eval p.2)).toArray res (by simpa using hb)
  simp only [execOp, List.map_toArray, Sem.run_bind, this]
  rfl) K
end
def outC (P : Program) (t : TM) (L : GH) : ResultVar → AV → Prop
 | .tmp s, v => t s = v
 | .cell c T, v => ∃ g off r u, t c = .ptr g off ∧ L g = some r ∧ P.underlying T = some u ∧
   ((aggT u = true ∧ ∃ z b cs, TI P T z cs.length b ∧ (r.cs.drop off).take cs.length = cs ∧ off + cs.length ≤ r.cs.length ∧ v = .agg cs) ∨ (aggT u = false ∧ r.cs[off]? = some v))
def outsC (P : Program) (t : TM) (L : GH) : List ResultVar → List AV → Prop
 | [], [] => True
 | r :: rs, v :: vs => outC P t L r v ∧ outsC P t L rs vs
 | _, _ => False
theorem own_cell {w : World} {L : GH} {g off : Nat} {r : Row} {v : AV} (h : RowR L w g r) (hc : r.cs[off]? = some v) : ∃ z, w.cell? ⟨g, off, none⟩ = some z ∧ VS L w v z := by
 obtain ⟨c, fr, vs, hh, _, _, hle, hvs, hv, _⟩ := h.cg hc
 obtain ⟨z, hz, hvz⟩ := hv.get off v hc
 refine ⟨z, ?_, hvz⟩
 have hlt : off < r.cs.length := (List.getElem?_eq_some_iff.1 hc).1
 rw [hvs, List.getElem?_take, if_pos hlt] at hz
 simp only [World.cell?, hh]
 simpa using hz
theorem outsC_run {P : Program} {N : Nat} {L : GH} {a : Act} {w : World} (t : TM) (s : Sim N t L a w) : ∀ (rs : List ResultVar) (vs : List AV), outsC P t L rs vs →
  ∃ xs : List Value, (rs.mapM (readOut a)).run P w = .ok xs w ∧ VSL L w vs xs
 | [], [], h => ⟨[], by simp, by simp [VSL]⟩
 | r :: rs, v :: vs, h => by
  obtain ⟨h1, h2⟩ := h
  obtain ⟨xs, hx, hv⟩ := outsC_run (P := P) t s rs vs h2
  have : ∃ x, (readOut a r).run P w = .ok x w ∧ VS L w v x := by
   cases r with
   | tmp i =>
    simp only [outC] at h1
    subst h1
    exact ⟨_, by simp [readOut], s.tm i⟩
   | cell c T =>
    obtain ⟨g, off, r, u, ht, hg, hu, hc⟩ := h1
    have e1 := s.tm c
    rw [ht] at e1
    simp only [VS] at e1
    rcases hc with ⟨ha, z, b, cs, hI, hcs, hle, rfl⟩ | ⟨ha, hcv⟩
    ·obtain ⟨us, hv, hcell⟩ := own_cells (s.rows g r hg) hcs hle
     have hl := hv.length
     rw [hl] at hI
     refine ⟨.agg us.toArray, ?_, by simp only [VS]; exact ⟨us, rfl, hv⟩⟩
     simp [readOut, e1, asAddr, run_loadAgg hu ha hI hcell]
    ·obtain ⟨z, hz, hvz⟩ := own_cell (s.rows g r hg) hcv
     have hagg : (isAgg T).run P w = .ok false w := by
      unfold isAgg
      simp only [Sem.run_bind, run_underlying hu, Result.andThen_ok]
      cases u <;> simp_all [aggT]
     exact ⟨z, by simp [readOut, e1, asAddr, loadVar, hagg, hz], hvz⟩
  obtain ⟨x, hx1, hv1⟩ := this
  exact ⟨x :: xs, by simp [hx1, hx], by simp only [VSL]; exact ⟨hv1, hv⟩⟩
 | [], _ :: _, h => by simp [outsC] at h
 | _ :: _, [], h => by simp [outsC] at h
def JQC (P : Program) (rs : List ResultVar) (R : AV → GH → Prop) : Exit → TM → GH → Prop
 | .normal, t, L => ∃ vs L', outsC P t L rs vs ∧ (∀ g r, L' g = some r → L g = some r) ∧ R (out1 vs) L'
 | .ret, t, L => ∃ vs L', outsC P t L rs vs ∧ (∀ g r, L' g = some r → L g = some r) ∧ R (out1 vs) L'
 | _, _, _ => False
theorem JF.bodyC {P : Program} {f : FuncId} {fn : Func} {c : Code} {args : List AV} {L : GH} {R : AV → GH → Prop} (hf : P.funcs[f]? = some fn) (hb : fn.body = some c) (hn : args.length ≤ fn.ntmps)
  (h : J P fn.ntmps c (JQC P fn.results.toList R) (tm0 args) L) : JF P f args L R := by
 intro w xs hglb hv hrows
 refine calls_of_wp hf hb ?_
 have hl := hv.length
 have s : Sim fn.ntmps (tm0 args) L { tmps := xs.toArray ++ Array.replicate (fn.ntmps - xs.toArray.size) undef, defers := [] } w := by
  refine ⟨fun i => ?_, hrows, by simp; omega, rfl, hglb⟩
  unfold tm0
  by_cases hi : i < args.length
  ·have := hv.getD i hi
   have e : (xs.toArray ++ Array.replicate (fn.ntmps - xs.toArray.size) undef).getD i undef = xs.getD i undef := by
    have hx : i < xs.length := by omega
    simp [Array.getD_eq_getD_getElem?, Array.getElem?_append, hx, List.getD_eq_getElem?_getD]
   show VS L w _ ((xs.toArray ++ Array.replicate (fn.ntmps - xs.toArray.size) undef).getD i undef)
   rw [e]
   exact this
  ·have e : args.getD i .top = .top := by simp [List.getD_eq_getElem?_getD, List.getElem?_eq_none (Nat.le_of_not_lt hi)]
   rw [e]
   simp [VS]
 refine wp_mono (h.wp L w _ w (Ext.refl _ _) s) ?_
 rintro e a' w' ⟨t', L', s', x, q⟩
 have fin : (∃ vs L'', outsC P t' L' fn.results.toList vs ∧ (∀ g r, L'' g = some r → L' g = some r) ∧ R (out1 vs) L'') → a'.defers = [] ∧ ∃ v, (results fn a'.tmps).run P w' = .ok v w' ∧
   ∃ v' x' L'', Ending.returned v = .returned x' ∧ VS L'' w' v' x' ∧ (∀ g r, L'' g = some r → RowR L'' w' g r) ∧ Ext L w L'' w' ∧ R v' L'' := by
  rintro ⟨vs, L'', ho, hsub, hr⟩
  obtain ⟨us, hu, hv0⟩ := outsC_run (P := P) t' s' _ _ ho
  have hd : ∀ b, L' b = none → L'' b = none := fun b hb => by
   cases h' : L'' b with
   | none => rfl
   | some r => rw [hsub b r h'] at hb; cases hb
  have hx2 := Ext.drop w' hd
  have hv := VSL.ext hx2 _ _ hv0
  refine ⟨s'.df.1, if h : us.toArray.size = 1 then us.toArray[0] else .tuple us.toArray, ?_, out1 vs, _, L'', rfl, ?_, fun g r hg => (s'.rows g r (hsub g r hg)).ext hx2 rfl, x.trans hx2, hr⟩
  ·have hm : (fn.results.mapM (readOut a')).run P w' = .ok us.toArray w' := by
    rw [Array.mapM_eq_mapM_toList, Sem.run_map, hu]
    simp
   have e : results fn a'.tmps = (do let vs ← fn.results.mapM (readOut a'); pure (if h : vs.size = 1 then vs[0] else .tuple vs)) := by
    unfold results
    congr 2
   rw [e, Sem.run_bind, hm]
   rfl
  ·have hl := hv.length
   match vs, us, hv, hl with
   | [v], [u], hv, _ =>
    simp only [VSL] at hv
    simpa [out1] using hv.1
   | [], [], hv, _ => simpa [out1, VS] using hv
   | v :: v2 :: vs, u :: u2 :: us, hv, _ =>
    have : ¬ (u :: u2 :: us).toArray.size = 1 := by simp
    rw [dif_neg this]
    simp only [out1, VS]
    exact ⟨_, rfl, hv⟩
 cases e with
 | normal => exact fin q
 | ret => exact fin q
 | exit id => exact q.elim
 | goto l => exact q.elim
 | panic ch => exact q.elim
 | outgrown => exact q.elim
end Go.Proofs.YtaglpckihegmoaaDoorAv
namespace Go.Proofs.YtaglpckihegmoaaDoorAv
open Go Go.RowKit
theorem JO.freeze {P : Program} {N : Nat} {ops : Array Oper} {os : List Oper} {Q : Exit → TM → GH → Prop} {t : TM} {L : GH} {og : Option Nat} {r : Row} {sz n : Nat} (s : Nat) (hF : Fre L og) (ht : t s = hv og sz n) (hnil : og = none → r.cs = [] ∧ n = 0) (hl : r.cs.length = n * sz)
  (h : JO P N ops Q os (t.put s (.fz n r.cs)) L) : JO P N ops Q os t (updo L og r) := by
 intro ro L0 w0 a w he hs
 have hd : ∀ b, updo L og r b = none → L b = none := fun b hb => (updo_none hb).2
 have hx := Ext.drop w hd
 have hs' := hs.ext hx (fun g q hg => by
  cases og with
  | none => exact (hs.rows g q hg).ext hx rfl
  | some g0 =>
   have hne : g ≠ g0 := by rintro rfl; rw [hF g rfl] at hg; cases hg
   exact (hs.rows g q (by show upd L g0 r g = some q; rw [upd_ne _ _ _ _ hne]; exact hg)).ext hx rfl)
 refine h ro L0 w0 a w (he.trans hx) ⟨fun i => ?_, hs'.rows, hs'.size, hs'.df⟩
 unfold TM.put
 split
 ·rename_i e
  subst e
  have := hs.tm i
  rw [ht] at this
  exact freeze_VS hF hs.rows hnil hl this
 ·exact hs'.tm i
end Go.Proofs.YtaglpckihegmoaaDoorAv
namespace Go.Proofs.YtaglpckihegmoaaDoorAv
open Go Go.RowKit
def StepW (P : Program) (N : Nat) (ops : Array Oper) (o : Oper) (t : TM) (L : GH) (t' : TM) (L' : GH) : Prop := ∀ Q os, JO P N ops Q os t' L' → JO P N ops Q (o :: os) t L
def appW (L : GH) : Option (Nat × Row) → GH
 | none => L
 | some (g, r) => upd L g r
def rst : List Nat → TM → TM
 | [], _ => fun _ => .top
 | d :: l, t => (rst l t).put d (t d)
theorem rst_at (t : TM) (s : Nat) : ∀ ls : List Nat, rst ls t s = if ls.contains s then t s else .top
 | [] => rfl
 | d :: l => by
  simp only [rst, TM.put, rst_at t s l, List.contains_cons]
  by_cases h : s = d
  ·subst h; simp
  ·rw [if_neg h]
   have : (s == d) = false := by simpa using h
   rw [this, Bool.false_or]
theorem upon_frame {P : Program} {o : Oper} {a : Act} {w : World} {K K' : Act → World → Prop} {Q Q' : Exit → Act → World → Prop} {F : Fence} {m : Nat} (h : ∀ x w', K (a.put o.dst x) w' → K' (a.put o.dst x) w') (hd : ∀ d w', ¬ K ({ a with defers := d :: a.defers }.put o.dst undef) w')
  (hq : ∀ e a w, Q e a w → e = .normal) (hh : o.wpIn F m P a w K Q) : o.wpIn F m P a w K' Q' := by
 unfold Oper.wpIn at *
 refine ⟨hh.1, ?_⟩
 have hh := hh.2
 generalize (o.semAt F.round a.eval).run P w = r at *
 cases r with
 | ok n w' =>
  cases n <;> simp only [Oper.uponIn] at hh ⊢
  case value v => exact h _ _ hh
  case skip => exact h _ _ hh
  case defer d => exact absurd hh (hd _ _)
  case enter f args =>
   exact ⟨hh.1, CallsIn.mono hh.2 (fun e w'' he => by
    cases e with
    | returned v => exact h _ _ he
    | panicked c => exact absurd (hq _ _ _ he) (by simp)
    | outgrown => obtain ⟨a, w, he⟩ := he; exact absurd (hq _ _ _ he) (by simp))⟩
  case row r args => exact ⟨hh.1, RowsIn.mono hh.2 (fun _ _ he => h _ _ he)⟩
  case round l f t as b =>
   exact ⟨hh.1, RoundIn.mono hh.2 (fun e w'' he => by
    cases e with
    | returned v => exact h _ _ he
    | panicked c => exact absurd (hq _ _ _ he) (by simp)
    | outgrown => obtain ⟨a, w, he⟩ := he; exact absurd (hq _ _ _ he) (by simp))⟩
 | halt x w' =>
  cases x <;> simp only [Oper.uponIn] at hh ⊢
  exact absurd (hq _ _ _ hh) (by simp)
section
variable {P : Program} {N : Nat} {ops : Array Oper}
theorem stepW_run {ro : Option Nat} {Q' : Exit → Act → World → Prop} {o : Oper} {ls : List Nat} {t t1 : TM} {L L' : GH} {v : AV} {a : Act} {w : World} {K : Act → World → Prop} {i : Nat} (hi : ops[i]? = some o) (hdN : ∀ d, o.dst = some d → d < N)
  (h : StepW P N ops o (rst ls t) L ((rst ls t).putO o.dst v) L') (hag : ∀ s, ls.contains s = true → t1 s = t s) (s : Sim N t1 L a w)
  (hk : ∀ a' w', Sim N (t1.putO o.dst v) L' a' w' → Ext L w L' w' → K a' w') : wpOpIn (FR ro) 0 P ops Q' i K a w := by
 have s1 : Sim N (rst ls t) L a w := ⟨fun j => by
  rw [rst_at]
  split
  ·rename_i hc; rw [← hag j hc]; exact s.tm j
  ·simp [VS], s.rows, s.size, s.df⟩
 have h1 := h (fun e t' L'' => e = .normal ∧ t' = (rst ls t).putO o.dst v ∧ L'' = L') [] (JO.nil ⟨rfl, rfl, rfl⟩) ro L w a w (Ext.refl _ _) s1
 unfold wpOpIn
 rw [hi]
 simp only
 unfold wpListIn at h1
 have lift : ∀ x w', LQ N L w (fun e t' L'' => e = .normal ∧ t' = (rst ls t).putO o.dst v ∧ L'' = L') .normal (a.put o.dst x) w' → K (a.put o.dst x) w' := by
  rintro x w' ⟨t', L'', s', x', _, rfl, rfl⟩
  refine hk _ _ ?_ x'
  have sx := s.ext x' s'.rows
  cases hd : o.dst with
  | none => rw [hd] at s'; exact sx
  | some d =>
   rw [hd] at s'
   refine sx.put d (hdN d hd) ?_
   have := s'.tm d
   simp only [TM.putO, TM.put_same] at this
   have hdl : d < a.tmps.size := by rw [s.size]; exact hdN d hd
   simpa [Act.put, Array.getD_eq_getD_getElem?, hdl] using this
 have noex : ∀ e a' w', LQ N L w (fun e t' L'' => e = .normal ∧ t' = (rst ls t).putO o.dst v ∧ L'' = L') e a' w' → e = .normal := by
  rintro e a' w' ⟨_, _, _, _, h2, _⟩
  exact h2
 split at h1
 ·rename_i hw
  rw [if_pos hw]
  refine upon_frame lift ?_ noex h1
  rintro d w' ⟨t', L'', s', _⟩
  have := s'.df
  cases hdo : o.dst <;> simp [hdo, Act.put] at this
 ·rename_i hw
  rw [if_neg hw]
  exact ⟨fun _ _ => trivial, lift undef w h1.2⟩
end
section
variable (ops : Array Oper) (V : Nat → AV) (W : Nat → Option (Nat × Row)) (t : TM) (L : GH)
def refT (m : Nat → Bool) : Nat → TM
 | 0 => t
 | k + 1 => if m k then (refT m k).putO ((ops[k]?).bind (·.dst)) (V k) else refT m k
def refL (m : Nat → Bool) : Nat → GH
 | 0 => L
 | k + 1 => if m k then appW (refL m k) (W k) else refL m k
variable {ops V W t L}
theorem putO_at (t : TM) (d : Option Nat) (v : AV) (s : Nat) : t.putO d v s = if d = some s then v else t s := by
 cases d with
 | none => rfl
 | some d =>
  simp only [TM.putO, TM.put]
  by_cases h : s = d
  ·subst h; simp
  ·rw [if_neg h, if_neg (fun e => h (Option.some.inj e).symm)]
theorem appW_at (L : GH) (W : Option (Nat × Row)) (b : Nat) : appW L W b = match W with | some (g, r) => if g = b then some r else L b | none => L b := by
 cases W with
 | none => rfl
 | some p =>
  obtain ⟨g, r⟩ := p
  simp only [appW, upd]
  by_cases h : b = g
  ·subst h; simp
  ·rw [if_neg h, if_neg (Ne.symm h)]
theorem refT_cong {m m' : Nat → Bool} {s : Nat} : ∀ k, (∀ j, j < k → (ops[j]?).bind (·.dst) = some s → m j = m' j) → refT ops V t m k s = refT ops V t m' k s
 | 0, _ => rfl
 | k + 1, h => by
  have ih := refT_cong (m := m) (m' := m') k fun j hj => h j (by omega)
  simp only [refT]
  by_cases hd : (ops[k]?).bind (·.dst) = some s
  ·rw [h k (by omega) hd]
   split
   ·rw [putO_at, putO_at, if_pos hd, if_pos hd]
   ·exact ih
  ·have e : ∀ (b : Bool) (T : TM), (if b then T.putO ((ops[k]?).bind (·.dst)) (V k) else T) s = T s := by
    intro b T
    split
    ·rw [putO_at, if_neg hd]
    ·rfl
   rw [e, e]; exact ih
theorem refL_cong {m m' : Nat → Bool} {b : Nat} : ∀ k, (∀ j, j < k → (W j).map (·.1) = some b → m j = m' j) → refL W L m k b = refL W L m' k b
 | 0, _ => rfl
 | k + 1, h => by
  have ih := refL_cong (m := m) (m' := m') k fun j hj => h j (by omega)
  simp only [refL]
  by_cases hd : (W k).map (·.1) = some b
  ·rw [h k (by omega) hd]
   split
   ·rw [appW_at, appW_at]
    cases hw : W k with
    | none => rw [hw] at hd; cases hd
    | some p => rw [hw] at hd; obtain ⟨g, r⟩ := p; obtain rfl := Option.some.inj hd; simp
   ·exact ih
  ·have e : ∀ (c : Bool) (T : GH), (if c then appW T (W k) else T) b = T b := by
    intro c T
    split
    ·rw [appW_at]
     cases hw : W k with
     | none => rfl
     | some p =>
      obtain ⟨g, r⟩ := p
      rw [hw] at hd
      have : g ≠ b := fun e => hd (by rw [e]; rfl)
      simp [this]
    ·rfl
   rw [e, e]; exact ih
theorem refT_upto {i : Nat} {s : Nat} : ∀ k, i ≤ k → refT ops V t (fun j => decide (j < i)) k s = refT ops V t (fun _ => true) i s
  | 0, h => by obtain rfl : i = 0 := by omega
               rfl
  | k + 1, h => by
    by_cases hk : i = k + 1
    · subst hk
      exact refT_cong _ fun j hj _ => by simp [hj]
    · simp only [refT]
      rw [if_neg (by simp; omega)]
      exact refT_upto k (by omega)
theorem refL_upto {i : Nat} {b : Nat} : ∀ k, i ≤ k → refL W L (fun j => decide (j < i)) k b = refL W L (fun _ => true) i b
  | 0, h => by obtain rfl : i = 0 := by omega
               rfl
  | k + 1, h => by
    by_cases hk : i = k + 1
    · subst hk
      exact refL_cong _ fun j hj _ => by simp [hj]
    · simp only [refL]
      rw [if_neg (by simp; omega)]
      exact refL_upto k (by omega)
theorem refT_more {m : Nat → Bool} {i : Nat} (hm : m i = false) : ∀ k, i < k → (∀ j, i < j → j < k → (ops[j]?).bind (·.dst) = (ops[i]?).bind (·.dst) → (ops[i]?).bind (·.dst) ≠ none → m j = false) →
  refT ops V t (fun j => if j = i then true else m j) k = (refT ops V t m k).putO ((ops[i]?).bind (·.dst)) (V i)
 | 0, h, _ => by omega
 | k + 1, h, hl => by
  by_cases hk : k = i
  ·subst hk
   simp only [refT, if_true, hm]
   have e : refT ops V t (fun j => if j = k then true else m j) k = refT ops V t m k := by
    funext s
    exact refT_cong _ fun j hj _ => by simp; omega
   rw [e]
   simp
  ·have ih := refT_more hm k (by omega) fun j h1 h2 => hl j h1 (by omega)
   simp only [refT, if_neg hk]
   rw [ih]
   split
   ·rename_i hmk
    funext s
    rw [putO_at, putO_at, putO_at, putO_at]
    by_cases h1 : (ops[k]?).bind (·.dst) = some s
    ·rw [if_pos h1]
     by_cases h2 : (ops[i]?).bind (·.dst) = some s
     ·have := hl k (by omega) (by omega) (h1.trans h2.symm) (by rw [h2]; simp)
      rw [hmk] at this; cases this
     ·rw [if_neg h2, if_pos h1]
    ·rw [if_neg h1]
     by_cases h2 : (ops[i]?).bind (·.dst) = some s
     ·rw [if_pos h2, if_pos h2]
     ·rw [if_neg h2, if_neg h2, if_neg h1]
   ·rfl
theorem refL_more {m : Nat → Bool} {i : Nat} (hm : m i = false) : ∀ k, i < k → (∀ j, i < j → j < k → (W j).map (·.1) = (W i).map (·.1) → (W i).map (·.1) ≠ none → m j = false) →
  refL W L (fun j => if j = i then true else m j) k = appW (refL W L m k) (W i)
 | 0, h, _ => by omega
 | k + 1, h, hl => by
  by_cases hk : k = i
  ·subst hk
   simp only [refL, if_true, hm]
   have e : refL W L (fun j => if j = k then true else m j) k = refL W L m k := by
    funext s
    exact refL_cong _ fun j hj _ => by simp; omega
   rw [e]
   simp
  ·have ih := refL_more hm k (by omega) fun j h1 h2 => hl j h1 (by omega)
   simp only [refL, if_neg hk]
   rw [ih]
   split
   ·rename_i hmk
    cases hwi : W i with
    | none => rfl
    | some p =>
     cases hwk : W k with
     | none => rfl
     | some q =>
      obtain ⟨g, r⟩ := p
      obtain ⟨g', r'⟩ := q
      have hne : g ≠ g' := by
       rintro rfl
       have := hl k (by omega) (by omega) (by rw [hwi, hwk]; rfl) (by rw [hwi]; simp)
       rw [hmk] at this; cases this
      exact upd_comm _ _ _ _ _ hne
   ·rfl
theorem refL_dom {m : Nat → Bool} (hw : ∀ k g r, W k = some (g, r) → (L g).isSome = true) : ∀ k b, (refL W L m k b).isSome = (L b).isSome
 | 0, _ => rfl
 | k + 1, b => by
  have ih := refL_dom (m := m) hw k b
  simp only [refL]
  split
  ·rw [appW_at]
   cases hk : W k with
   | none => exact ih
   | some p =>
    obtain ⟨g, r⟩ := p
    simp only
    split
    ·rename_i e; subst e; rw [hw k g r hk]; rfl
    ·exact ih
  ·exact ih
end
def waits (ops : Array Oper) (j i : Nat) : Bool :=
 match ops[j]? with
 | some oj => oj.after.any fun e => Region.binds .any e && e.on == i
 | none => false
theorem waits_spec {ops : Array Oper} {j i : Nat} (h : waits ops j i = true) : ∃ oj, ops[j]? = some oj ∧ ∃ e ∈ oj.after, Region.binds .any e = true ∧ e.on = i := by
 unfold waits at h
 split at h
 ·rename_i oj hj
  obtain ⟨e, he, hb⟩ := Array.any_eq_true'.1 h
  simp only [Bool.and_eq_true, beq_iff_eq] at hb
  exact ⟨oj, hj, e, he, hb.1, hb.2⟩
 ·cases h
def left (n : Nat) (listed : Array Bool) : Nat := ((List.range n).filter fun i => !listed.getD i true).length
theorem left_set {n i : Nat} {listed : Array Bool} (hs : listed.size = n) (hi : listed.getD i true = false) : left n (listed.setIfInBounds i true) < left n listed := by
 have hlt : i < n := by
  rcases Nat.lt_or_ge i n with h | h
  ·exact h
  ·simp [Array.getElem?_eq_none (hs ▸ h)] at hi
 unfold left
 have e : ((List.range n).filter fun j => !(listed.setIfInBounds i true).getD j true) = ((List.range n).filter fun j => !listed.getD j true).filter fun j => j != i := by
  rw [List.filter_filter]
  apply List.filter_congr
  intro j hj
  by_cases h : i = j
  ·subst h
   simp [hs, hlt]
  ·rw [getD_set_ne true h]
   have : (j != i) = true := by simpa using Ne.symm h
   rw [this, Bool.true_and]
 rw [e]
 refine List.length_filter_lt_length_iff_exists.2 ⟨i, ?_, by simp⟩
 rw [List.mem_filter]
 exact ⟨List.mem_range.2 hlt, by rw [hi]; rfl⟩
theorem getD_two {listed : Array Bool} {i : Nat} (hi : i < listed.size) : listed.getD i true = listed.getD i false := by simp [hi]
theorem refT_V {ops : Array Oper} {V V' : Nat → AV} {t : TM} {m : Nat → Bool} : ∀ k, (∀ j, j < k → V j = V' j) → refT ops V t m k = refT ops V' t m k
 | 0, _ => rfl
 | k + 1, h => by simp only [refT]; rw [refT_V k fun j hj => h j (by omega), h k (by omega)]
theorem refL_W {W W' : Nat → Option (Nat × Row)} {L : GH} {m : Nat → Bool} : ∀ k, (∀ j, j < k → W j = W' j) → refL W L m k = refL W' L m k
 | 0, _ => rfl
 | k + 1, h => by simp only [refL]; rw [refL_W k fun j hj => h j (by omega), h k (by omega)]
end Go.Proofs.YtaglpckihegmoaaDoorAv
namespace Go.Proofs.YtaglpckihegmoaaDoorAv
open Go Go.RowKit
section
variable {P : Program} {N : Nat} {ops : Array Oper} {Q : Exit → TM → GH → Prop} {d : Option Nat} {ty : TypeId} {pos : String} {af : Array Edge} {os : List Oper} {t : TM} {L : GH}
def repl : Nat → List Value → List Value
 | 0, _ => []
 | n + 1, l => l ++ repl n l
theorem repl_len (l : List Value) : ∀ n, (repl n l).length = n * l.length
 | 0 => by simp [repl]
 | n + 1 => by rw [repl, List.length_append, repl_len l n, Nat.add_mul, Nat.one_mul, Nat.add_comm]
theorem repl_get (l : List Value) : ∀ (n i : Nat), i < n * l.length → (repl n l)[i]? = l[i % l.length]?
 | 0, i, h => by simp at h
 | n + 1, i, h => by
  rw [repl]
  rcases Nat.lt_or_ge i l.length with hi | hi
  ·rw [List.getElem?_append_left hi, Nat.mod_eq_of_lt hi]
  ·rw [List.getElem?_append_right hi, repl_get l n (i - l.length) (by rw [Nat.add_mul] at h; omega), ← Nat.mod_eq_sub_mod hi]
theorem repl_add (l : List Value) : ∀ (n m : Nat), repl (n + m) l = repl n l ++ repl m l
 | 0, m => by simp [repl]
 | n + 1, m => by rw [Nat.add_right_comm, repl, repl_add l n m, repl, List.append_assoc]
theorem repl_made (z : Value) (n : Nat) (hs : 0 < z.cells.size) : ((Array.range (n * z.cells.size)).map fun x => z.cells[x % z.cells.size]!) = (repl n z.cells.toList).toArray := by
 apply Array.ext'
 apply List.ext_getElem?
 intro i
 simp only [Array.toList_map, Array.toList_range, List.getElem?_map, List.toList_toArray]
 rcases Nat.lt_or_ge i (n * z.cells.size) with hi | hi
 ·rw [List.getElem?_range hi, repl_get _ _ _ (by simpa using hi)]
  have hm : i % z.cells.size < z.cells.size := Nat.mod_lt _ hs
  simp [hm]
 ·rw [List.getElem?_eq_none (by simpa using hi), List.getElem?_eq_none (by rw [repl_len]; simpa using hi)]
  rfl
theorem VSL_p (w : World) (L : GH) : ∀ l : List Value, VSL L w (l.map AV.p) l
 | [] => by simp [VSL]
 | x :: l => by simp only [List.map_cons, VSL, VS]; exact ⟨trivial, VSL_p w L l⟩
theorem JO.makeSlice {T e : TypeId} {x y : Operand} {z : Value} {sz b : Nat} {l c : Int} {k k' : IntKind} (hT : P.underlying T = some (.slice e)) (hI : TI P e z sz b) (hzs : z.cells.size = sz) (hx : ev t x = .p (.int k l)) (hy : ev t y = .p (.int k' c))
  (h0 : 0 ≤ l) (h1 : l ≤ c) (h2 : c.toNat * b ≤ 140737488355328) (h3 : c ≤ 140737488355328) (hsz : 0 < sz) (ho : ones (z.cells.toList.map AV.p) = true) (hd : dok N d = true)
  (K : ∀ g, L g = none → JO P N ops Q os (t.putO d (.sl g sz 0 l.toNat)) (upd L g ⟨e, true, (repl l.toNat z.cells.toList).map AV.p⟩)) : JO P N ops Q (⟨d, .makeSlice T x y, ty, pos, af, none⟩ :: os) t L :=
 JO.new (fun g => .sl g sz 0 l.toNat) hd (fun a w s => by
  obtain ⟨i, hi, hz, his, hib⟩ := hI.get
  have ex := s.ev x
  have ey := s.ev y
  rw [hx] at ex
  rw [hy] at ey
  simp only [VS] at ex ey
  have hsplit : repl c.toNat z.cells.toList = repl l.toNat z.cells.toList ++ repl (c.toNat - l.toNat) z.cells.toList := by
   rw [← repl_add]; congr 1; omega
  have hlen : (repl c.toNat z.cells.toList).length = c.toNat * sz := by rw [repl_len, Array.length_toList, hzs]
  refine ⟨w.alloc (.cells (repl c.toNat z.cells.toList).toArray e), (0, 0), repl l.toNat z.cells.toList, repl (c.toNat - l.toNat) z.cells.toList, .slice (some ⟨w.heap.size, 0, none⟩) l.toNat c.toNat, ?_, fun _ => rfl, fun o _ => by simp, ?_, VSL_p w L _, ?_, fun L' => ?_⟩
  ·rw [← hsplit]
   exact Push.alloc w _
  ·have hw1 : IntKind.i64.wrap l = l := wrap64_in (by omega) (by omega)
   have hw2 : IntKind.i64.wrap c = c := wrap64_in (by omega) (by omega)
   have hB : ¬ (281474976710656 : Int) < (b : Int) * c := by
    have e1 : (b : Int) * c = ((c.toNat * b : Nat) : Int) := by
     rw [Int.natCast_mul, Int.toNat_of_nonneg (by omega), Int.mul_comm]
    rw [e1]; omega
   have hA : ¬ c < 0 := by omega
   have hC : ¬ l < 0 := by omega
   have hD : ¬ c < l := by omega
   have hroom : ¬ roomBytes < c.toNat * b := by simp only [roomBytes]; omega
   have hmade := repl_made z c.toNat (by omega)
   rw [hzs] at hmade
   by_cases hc0 : c.toNat * sz = 0
   ·have hcc : c.toNat = 0 := by rcases Nat.mul_eq_zero.1 hc0 with h | h <;> omega
    have hz0 : ∀ f : Nat → Value, Array.map f (Array.range 0) = #[] := fun f => by apply Array.ext'; simp
    simp [execOp, ex, ey, Instr.makeSlice, run_underlying hT, asInt, typeInfo, hz0, hi, his, hib, hw1, hw2, asIntOf, hA, hB, hC, hD, sizeOf, zeroValue, askRoom, hroom, newRow, hc0, hcc, repl]
   ·simp [execOp, ex, ey, Instr.makeSlice, run_underlying hT, asInt, typeInfo, hi, hz, his, hib, hw1, hw2, asIntOf, hA, hB, hC, hD, sizeOf, zeroValue, askRoom, hroom, newRow, hc0, hzs, hmade]
  ·intro v hv
   have hone := ones_cells ho (VSL_p w L z.cells.toList)
   have : ∀ n, ∀ v ∈ repl n z.cells.toList, v.oneCell' = true := by
    intro n
    induction n with
    | zero => intro v hv; simp [repl] at hv
    | succ n ih =>
     intro v hv
     rw [repl, List.mem_append] at hv
     rcases hv with hv | hv
     ·exact hone v hv
     ·exact ih v hv
   exact this _ v hv
  ·simp only [VS]
   refine ⟨some ⟨w.heap.size, 0, none⟩, c.toNat, rfl, by omega, .inr ⟨rfl, (repl c.toNat z.cells.toList).toArray, e, (0, 0), ?_, ?_⟩⟩
   ·rw [(Push.alloc w (.cells (repl c.toNat z.cells.toList).toArray e)).new]
   ·simp [hlen]) K
end
end Go.Proofs.YtaglpckihegmoaaDoorAv
namespace Go.Proofs.YtaglpckihegmoaaDoorAv
open Go Go.RowKit
section
variable {P : Program} {N : Nat} {ops : Array Oper} {Q : Exit → TM → GH → Prop} {d : Option Nat} {ty : TypeId} {pos : String} {af : Array Edge} {os : List Oper} {t : TM} {L : GH}
theorem run_isAgg {w : World} {T : TypeId} {u : TypeDesc} (hT : P.underlying T = some u) : (isAgg T).run P w = .ok (aggT u) w := by
 unfold isAgg
 simp only [Sem.run_bind, run_underlying hT, Result.andThen_ok]
 cases u <;> simp [aggT]
theorem run_partA {w : World} {T : TypeId} {u : TypeDesc} {z : Value} {sz b : Nat} (hT : P.underlying T = some u) (ha : aggT u = true) (hI : TI P T z sz b) (cs : Array Value) (off : Nat) :
  (part T cs off).run P w = .ok (.agg (cs.extract off (off + sz))) w := by
 obtain ⟨ti, hi, -, hs, -⟩ := hI.get
 simp [part, run_isAgg hT, ha, sizeOf, typeInfo, hi, hs]
theorem run_part1 {w : World} {T : TypeId} {u : TypeDesc} (hT : P.underlying T = some u) (ha : aggT u = false) {cs : Array Value} {off : Nat} {v : Value} (hv : cs[off]? = some v) :
  (part T cs off).run P w = .ok v w := by
 simp [part, run_isAgg hT, ha, hv]
theorem ext_list (vs : List Value) (off sz : Nat) : (vs.toArray).extract off (off + sz) = ((vs.drop off).take sz).toArray := by
 apply Array.ext'
 simp [Array.toList_extract]
theorem JO.fieldA {T : TypeId} {x : Operand} {i sz b : Nat} {cs : List AV} {fs : Array Field} {f : Field} {u : TypeDesc} {z : Value} (hT : P.underlying T = some (.struct fs)) (hf : fs[i]? = some f) (hu : P.underlying f.type = some u)
  (ha : aggT u = true) (hI : TI P f.type z sz b) (hx : ev t x = .agg cs) (hd : dok N d = true)
  (K : JO P N ops Q os (t.putO d (.agg ((cs.drop f.offset).take sz))) L) : JO P N ops Q (⟨d, .field T x i, ty, pos, af, none⟩ :: os) t L :=
 JO.still hd (fun a w s => by
  have e1 := s.ev x
  rw [hx] at e1
  simp only [VS] at e1
  obtain ⟨vs, e1, hv⟩ := e1
  refine ⟨.agg ((vs.drop f.offset).take sz).toArray, ?_, by simp only [VS]; exact ⟨_, rfl, (hv.drop _).take _⟩⟩
  simp [execOp, e1, Instr.field, run_underlying hT, hf, asAgg, run_partA hu ha hI, ext_list]) K
theorem JO.index1 {T e : TypeId} {x y : Operand} {n b : Nat} {cs : List AV} {u : TypeDesc} {z : Value} {k : IntKind} {j : Int} {v : AV} (hT : P.underlying T = some (.array n e)) (hu : P.underlying e = some u) (ha : aggT u = false) (hI : TI P e z 1 b)
  (hx : ev t x = .agg cs) (hy : ev t y = .p (.int k j)) (h0 : 0 ≤ j) (h1 : j < n) (hc : cs[j.toNat]? = some v) (hd : dok N d = true) (K : JO P N ops Q os (t.putO d v) L) :
  JO P N ops Q (⟨d, .index T x y, ty, pos, af, none⟩ :: os) t L :=
 JO.still hd (fun a w s => by
  have e1 := s.ev x
  have e2 := s.ev y
  rw [hx] at e1
  rw [hy] at e2
  simp only [VS] at e1 e2
  obtain ⟨vs, e1, hv⟩ := e1
  obtain ⟨z', hz, hvz⟩ := hv.get _ v hc
  obtain ⟨ti, hi, -, hs, -⟩ := hI.get
  refine ⟨z', ?_, hvz⟩
  simp [execOp, e1, e2, Instr.index, asIntOf, run_underlying hT, h0, h1, sizeOf, typeInfo, hi, hs, run_part1 hu ha (cs := vs.toArray) (off := j.toNat) (v := z') (by simpa using hz)]) K
theorem JO.indexA {T e : TypeId} {x y : Operand} {n sz b : Nat} {cs : List AV} {u : TypeDesc} {z : Value} {k : IntKind} {j : Int} (hT : P.underlying T = some (.array n e)) (hu : P.underlying e = some u) (ha : aggT u = true) (hI : TI P e z sz b)
  (hx : ev t x = .agg cs) (hy : ev t y = .p (.int k j)) (h0 : 0 ≤ j) (h1 : j < n) (hd : dok N d = true) (K : JO P N ops Q os (t.putO d (.agg ((cs.drop (j.toNat * sz)).take sz))) L) :
  JO P N ops Q (⟨d, .index T x y, ty, pos, af, none⟩ :: os) t L :=
 JO.still hd (fun a w s => by
  have e1 := s.ev x
  have e2 := s.ev y
  rw [hx] at e1
  rw [hy] at e2
  simp only [VS] at e1 e2
  obtain ⟨vs, e1, hv⟩ := e1
  obtain ⟨ti, hi, -, hs, -⟩ := hI.get
  refine ⟨.agg ((vs.drop (j.toNat * sz)).take sz).toArray, ?_, by simp only [VS]; exact ⟨_, rfl, (hv.drop _).take _⟩⟩
  simp [execOp, e1, e2, Instr.index, asIntOf, run_underlying hT, h0, h1, sizeOf, typeInfo, hi, hs, run_partA hu ha hI, ext_list]) K
theorem fill_congr {p q : Nat → Option (Nat × Nat)} : ∀ (parts : List (Nat × Value)) (cells : Array Value), (∀ x ∈ parts, p x.1 = q x.1) → Instr.fill p cells parts = Instr.fill q cells parts
 | [], _, _ => rfl
 | (i, v) :: parts, cells, h => by
  simp only [Instr.fill]
  rw [h (i, v) (by simp)]
  cases q i with
  | none => rfl
  | some os =>
   simp only
   split
   ·rfl
   ·exact fill_congr parts _ fun x hx => h x (by simp [hx])
theorem JO.buildArr {T e : TypeId} {parts : List (Nat × Operand)} {n s bb : Nat} {z ze : Value} {sz b : Nat} {zs out : List AV} (hT : P.underlying T = some (.array n e)) (hI : TI P T z sz b) (hE : TI P e ze s bb)
  (hlt : ∀ p ∈ parts, p.1 < n) (hz : z.cells.toList.map AV.p = zs) (h1 : ∀ p ∈ parts, ones (ev t p.2).cells = true)
  (ho : laid ((List.range n).map fun i => (i * s, s)) zs (parts.map fun p => (p.1, (ev t p.2).cells)) = some out) (hd : dok N d = true) (K : JO P N ops Q os (t.putO d (.agg out)) L) :
  JO P N ops Q (⟨d, .build T parts.toArray, ty, pos, af, none⟩ :: os) t L :=
 JO.still hd (fun a w sm => by
  obtain ⟨ti, hi, hzz, -, -⟩ := hI.get
  obtain ⟨te, hie, -, hse, -⟩ := hE.get
  have hzv : VSL L w zs z.cells.toList := by
   rw [← hz]
   generalize z.cells.toList = l
   induction l with
   | nil => simp [VSL]
   | cons x l ih => simp only [List.map_cons, VSL, VS]; exact ⟨trivial, ih⟩
  obtain ⟨res, hr, hv⟩ := fill_laid (w := w) (L := L) (pl := (List.range n).map fun i => (i * s, s)) (parts.map fun p => (p.1, a.eval p.2)) (parts.map fun p => (p.1, (ev t p.2).cells)) zs out z.cells hzv (by simp) (by
   intro i p q h2 h3
   rw [List.getElem?_map] at h2 h3
   cases hi : parts[i]? with
   | none => rw [hi] at h2; cases h2
   | some o =>
    rw [hi] at h2 h3
    obtain rfl := Option.some.inj h2
    obtain rfl := Option.some.inj h3
    exact cells_of (sm.ev o.2) (h1 o (List.mem_of_getElem? hi))) ho
  have hb : P.built T (parts.map fun p => (p.1, a.eval p.2)) = some res := by
   simp only [Program.built, hi, hT, hzz, hie]
   rw [← hr]
   refine fill_congr _ _ fun x hx => ?_
   obtain ⟨y, hy, rfl⟩ := List.mem_map.1 hx
   have := hlt y hy
   simp only [List.getElem?_map, hse]
   rw [List.getElem?_range this]
   rfl
  refine ⟨.agg res, ?_, by simp only [VS]; exact ⟨res.toList, by simp, hv⟩⟩
  have := run_build (P := P) w T (parts.map fun p => (p.1, a.eval p.2)).toArray res (by simpa using hb)
  simp only [execOp, List.map_toArray, Sem.run_bind, this]
  rfl) K
theorem JO.sliceFp {T e : TypeId} {x : Operand} {n : Nat} {cs : List AV} {te : TypeInfo} (hT : P.underlying T = some (.array n e)) (hie : P.info? e = some te) (hx : ev t x = .fp cs) (hd : dok N d = true)
  (K : JO P N ops Q os (t.putO d (.fz n (cs.take (n * te.size)))) L) : JO P N ops Q (⟨d, .slice T x none none none, ty, pos, af, none⟩ :: os) t L :=
 JO.still hd (fun a w s => by
  have e1 := s.ev x
  rw [hx] at e1
  simp only [VS] at e1
  obtain ⟨ad, vs, e1, hc, hv⟩ := e1
  refine ⟨.slice (some (if n = 0 then ad else ad.add 0)) n n, ?_, ?_⟩
  ·simp [execOp, e1, Instr.sliceAt, run_underlying hT, Instr.sureAddr, Instr.sliceBounds, sizeOf, typeInfo, hie]
  ·have ea : (if n = 0 then ad else ad.add 0) = ad := by
    split
    ·rfl
    ·simp [Addr.add]
   rw [ea]
   simp only [VS]
   refine ⟨some ad, n, vs.take (n * te.size), rfl, Nat.le_refl _, ?_, hv.take _⟩
   rcases hc with rfl | ⟨a', h1, h2, h3, h4⟩
   ·exact .inl (by simp)
   ·refine .inr ⟨a', h1, h2, fun v hv => h3 v (List.mem_of_mem_take hv), fun i v hi => h4 i v ?_⟩
    rw [List.getElem?_take] at hi
    split at hi
    ·exact hi
    ·cases hi) K
theorem JO.sliceArr {T e : TypeId} {x : Operand} {lo hi : Option Operand} {n g off : Nat} {r : Row} {l h : Int} {te : TypeInfo} (hT : P.underlying T = some (.array n e)) (hie : P.info? e = some te) (h1 : te.size = 1) (hx : ev t x = .ptr g off) (hr : L g = some r)
  (hle : off + n ≤ r.cs.length) (hl : match lo with | some i => ∃ k, ev t i = .p (.int k l) | none => l = 0) (hh : match hi with | some i => ∃ k, ev t i = .p (.int k h) | none => h = n) (hd : dok N d = true)
  (h0 : 0 ≤ l) (hlh : l ≤ h) (hhn : h ≤ n)
  (K : JO P N ops Q os (t.putO d (.sl g 1 (off + l.toNat) (h - l).toNat)) L) (hb0 : r.isc := by first | exact trivial | assumption) : JO P N ops Q (⟨d, .slice T x lo hi none, ty, pos, af, none⟩ :: os) t L :=
 JO.still hd (fun a w s => by
  have e1 := s.ev x
  rw [hx] at e1
  simp only [VS] at e1
  obtain ⟨c, fr, vs, hheap, -, -, hlen, -⟩ := (s.rows g r hr).c hb0
  refine ⟨.slice (some (if n = l.toNat then ⟨g, off, none⟩ else (⟨g, off, none⟩ : Addr).add (l.toNat * te.size))) (h.toNat - l.toNat) (n - l.toNat), ?_, ?_⟩
  ·have hb : (Instr.sliceBounds false n n (lo.map a.eval) (hi.map a.eval) none).run P w = .ok (l.toNat, h.toNat, n) w := by
    have hm : max h 0 = h := by omega
    have h00 : 0 ≤ h := by omega
    unfold Instr.sliceBounds
    cases lo with
    | none =>
     simp only at hl
     subst hl
     cases hi with
     | none => simp only at hh; subst hh; simp
     | some i =>
      obtain ⟨k, hh⟩ := hh
      have e2 := s.ev i
      rw [hh] at e2
      simp only [VS] at e2
      simp [e2, Instr.sliceBound, asIntOf, h00, hhn]
    | some i1 =>
     obtain ⟨k1, hl⟩ := hl
     have e1 := s.ev i1
     rw [hl] at e1
     simp only [VS] at e1
     cases hi with
     | none =>
      simp only at hh
      subst hh
      simp [e1, Instr.sliceBound, asIntOf, h0, hlh]
     | some i =>
      obtain ⟨k, hh⟩ := hh
      have e2 := s.ev i
      rw [hh] at e2
      simp only [VS] at e2
      simp [e1, e2, Instr.sliceBound, asIntOf, h0, h00, hhn, hm, hlh]
   simp [execOp, e1, Instr.sliceAt, run_underlying hT, Instr.sureAddr, hb, sizeOf, typeInfo, hie]
  ·simp only [VS]
   refine ⟨_, n - l.toNat, by rw [show (h - l).toNat = h.toNat - l.toNat by omega], by omega, ?_⟩
   by_cases hn : n = l.toNat
   ·left; omega
   ·right
    rw [if_neg hn, add_plain, h1, Nat.mul_one]
    exact ⟨rfl, c, _, _, hheap, by omega⟩) K
theorem JO.toArr {T e : TypeId} {x : Operand} {n m g sz off : Nat} (hT : P.underlying T = some (.array n e)) (hx : ev t x = .sl g sz off m) (hn : n ≤ m) (h0 : 0 < n) (hd : dok N d = true)
  (K : JO P N ops Q os (t.putO d (.ptr g off)) L) : JO P N ops Q (⟨d, .sliceToArrayPointer T x, ty, pos, af, none⟩ :: os) t L :=
 JO.still hd (fun a w s => by
  have e1 := s.ev x
  rw [hx] at e1
  simp only [VS] at e1
  obtain ⟨ad, cap, e1, hc, ha⟩ := e1
  have : ad = some ⟨g, off, none⟩ := by
   rcases ha with ha | ⟨ha, _⟩
   ·omega
   ·exact ha
  subst this
  refine ⟨.pointer (some ⟨g, off, none⟩), ?_, by simp [VS]⟩
  have hnm : ¬ m < n := by omega
  simp [execOp, e1, Instr.arrayAt, run_underlying hT, hnm]) K
theorem run_eqArr {w : World} (dd : Nat) {T e : TypeId} {n s bb : Nat} {ze : Value} (hT : P.underlying T = some (.array n e)) (hE : TI P e ze s bb) (xs ys : Array Value) (f : Nat → Bool)
  (hf : ∀ i, i < n → ∃ a b, (part e xs (i * s)).run P w = .ok a w ∧ (part e ys (i * s)).run P w = .ok b w ∧ (Op.equalIn dd e a b).run P w = .ok (f i) w) :
  (Op.equalIn (dd + 1) T (.agg xs) (.agg ys)).run P w = .ok ((List.range n).all f) w := by
 obtain ⟨te, hie, -, hse, -⟩ := hE.get
 have key : ∀ (m k : Nat), k + m = n → (do
   let r ← forIn (List.range' k m) ((none, ()) : Option Bool × Unit) fun i r => do
    if (!(← Op.equalIn dd e (← part e xs (i * s)) (← part e ys (i * s)))) = true then Pure.pure (.done (some false, ())) else Pure.pure (.yield (none, ()))
   match r.fst with
   | some a => Pure.pure a
   | none => Pure.pure true : Sem Bool).run P w = .ok ((List.range' k m).all f) w := by
  intro m
  induction m with
  | zero => intro k _; simp
  | succ m ih =>
   intro k hk
   obtain ⟨a, b, h1, h2, h3⟩ := hf k (by omega)
   have ih' := ih (k + 1) (by omega)
   simp only [Sem.run_bind] at ih'
   simp only [List.range'_succ, List.forIn_cons, Sem.run_bind, h1, h2, h3, Result.andThen_ok, List.all_cons]
   cases hfk : f k with
   | true => simp only [Bool.not_true, Bool.false_eq_true, if_false, Sem.run_pure, Result.andThen_ok, Bool.true_and]; exact ih'
   | false => simp
 have := key n 0 (by omega)
 rw [← List.range_eq_range'] at this
 have hsz : (sizeOf e).run P w = .ok s w := by simp [sizeOf, typeInfo, hie, hse]
 simp only [Op.equalIn, Sem.run_bind, run_underlying hT, Result.andThen_ok, hsz]
 simp only [Sem.run_bind] at this
 simp [List.range_eq_range'] at this ⊢
 rw [← this]
 congr 1
 funext a w'
 rcases a with ⟨_ | _, _⟩ <;> rfl
end
end Go.Proofs.YtaglpckihegmoaaDoorAv
namespace Go.Proofs.YtaglpckihegmoaaDoorAv
open Go Go.RowKit
section
variable {P : Program} {N : Nat} {ops : Array Oper} {os : List Oper} {Q : Exit → TM → GH → Prop} {t : TM} {L : GH} {d : Option Nat} {ty : TypeId} {pos : String} {af : Array Edge}
def notIf : TypeDesc → Bool
 | .interface _ => false
 | _ => true
theorem run_mkIface {T : TypeId} {u : TypeDesc} (hT : P.underlying T = some u) (hu : notIf u = true) (z : Value) (w : World) : (Instr.makeInterface T z).run P w = .ok (.iface T z) w := by
 unfold Instr.makeInterface
 simp only [Sem.run_bind, run_underlying hT, Result.andThen_ok]
 cases u <;> first | rfl | cases hu
theorem JO.mkIface {T : TypeId} {x : Operand} {u : TypeDesc} {v : Value} (hT : P.underlying T = some u) (hu : notIf u = true) (hx : ev t x = .p v) (hd : dok N d = true)
  (K : JO P N ops Q os (t.putO d (.p (.iface T v))) L) : JO P N ops Q (⟨d, .makeInterface T x, ty, pos, af, none⟩ :: os) t L :=
 JO.still hd (fun c w s => by
  have e1 := s.ev x
  rw [hx] at e1
  simp only [VS] at e1
  refine ⟨.iface T v, ?_, by simp [VS]⟩
  simp [execOp, e1, run_mkIface hT hu]) K
theorem JO.mkIfaceAny {T : TypeId} {x : Operand} {u : TypeDesc} (hT : P.underlying T = some u) (hu : notIf u = true) (hd : dok N d = true)
  (K : JO P N ops Q os (t.putO d (.iface T .top)) L) : JO P N ops Q (⟨d, .makeInterface T x, ty, pos, af, none⟩ :: os) t L :=
 JO.still hd (fun c w s => by
  refine ⟨.iface T (c.eval x), ?_, ⟨_, rfl, trivial⟩⟩
  simp [execOp, run_mkIface hT hu]) K
theorem equal_nn' {T : TypeId} {ms : Array (String × TypeId)} (hT : P.underlying T = some (.interface ms)) (w : World) (n : Nat) : (Op.equalIn (n + 1) T .nilIface .nilIface).run P w = .ok true w := by
 simp only [Op.equalIn, Sem.run_bind, run_underlying hT, Result.andThen_ok]
 rfl
theorem equal_nn {T : TypeId} {ms : Array (String × TypeId)} (hT : P.underlying T = some (.interface ms)) (w : World) : (Op.equal T .nilIface .nilIface).run P w = .ok true w := equal_nn' hT w 9999
theorem equal_ni' {T : TypeId} {ms : Array (String × TypeId)} (hT : P.underlying T = some (.interface ms)) (u : TypeId) (z : Value) (w : World) (n : Nat) : (Op.equalIn (n + 1) T .nilIface (.iface u z)).run P w = .ok false w := by
 simp only [Op.equalIn, Sem.run_bind, run_underlying hT, Result.andThen_ok]
 rfl
theorem equal_ni {T : TypeId} {ms : Array (String × TypeId)} (hT : P.underlying T = some (.interface ms)) (u : TypeId) (z : Value) (w : World) : (Op.equal T .nilIface (.iface u z)).run P w = .ok false w := equal_ni' hT u z w 9999
theorem equal_in' {T : TypeId} {ms : Array (String × TypeId)} (hT : P.underlying T = some (.interface ms)) (u : TypeId) (z : Value) (w : World) (n : Nat) : (Op.equalIn (n + 1) T (.iface u z) .nilIface).run P w = .ok false w := by
 simp only [Op.equalIn, Sem.run_bind, run_underlying hT, Result.andThen_ok]
 rfl
theorem equal_in {T : TypeId} {ms : Array (String × TypeId)} (hT : P.underlying T = some (.interface ms)) (u : TypeId) (z : Value) (w : World) : (Op.equal T (.iface u z) .nilIface).run P w = .ok false w := equal_in' hT u z w 9999
def isC : Operand → Bool
 | .const _ => true
 | _ => false
def niB (c : Bool) : AV → AV → Option Bool
 | .p .nilIface, .p .nilIface => match c with | true => some true | false => none
 | .p .nilIface, .p (.iface _ _) => some false
 | .p .nilIface, .iface _ _ => some false
 | .p (.iface _ _), .p .nilIface => some false
 | .iface _ _, .p .nilIface => some false
 | _, _ => none
theorem equal_niB {T : TypeId} {ms : Array (String × TypeId)} (hT : P.underlying T = some (.interface ms)) {c : Bool} {a b : AV} {r : Bool} (h : niB c a b = some r) {L : GH} {w : World} {x y : Value} (hx : VS L w a x) (hy : VS L w b y) :
  ((binOp .eql T x y).run P w = .ok (.bool r) w ∧ (binOp .neq T x y).run P w = .ok (.bool (!r)) w) ∧ ((x = .nilIface ∧ y = .nilIface ∧ c = true) ∨ ∀ op ox oy, (eqGuard op T ox oy x y).run P w = .ok () w) := by
 unfold niB at h
 split at h
 ·simp only [VS] at hx hy
  subst hx hy
  split at h
  ·obtain rfl := Option.some.inj h
   exact ⟨⟨by simp [binOp, equal_nn hT], by simp [binOp, equal_nn hT]⟩, .inl ⟨rfl, rfl, rfl⟩⟩
  ·cases h
 ·simp only [VS] at hx hy
  subst hx hy
  obtain rfl := Option.some.inj h
  exact ⟨⟨by simp [binOp, equal_ni hT], by simp [binOp, equal_ni hT]⟩, .inr fun op ox oy => by unfold eqGuard; split <;> simp⟩
 ·simp only [VS] at hx hy
  obtain ⟨z, rfl, _⟩ := hy
  subst hx
  obtain rfl := Option.some.inj h
  exact ⟨⟨by simp [binOp, equal_ni hT], by simp [binOp, equal_ni hT]⟩, .inr fun op ox oy => by unfold eqGuard; split <;> simp⟩
 ·simp only [VS] at hx hy
  subst hx hy
  obtain rfl := Option.some.inj h
  exact ⟨⟨by simp [binOp, equal_in hT], by simp [binOp, equal_in hT]⟩, .inr fun op ox oy => by unfold eqGuard; split <;> simp⟩
 ·simp only [VS] at hx hy
  obtain ⟨z, rfl, _⟩ := hx
  subst hy
  obtain rfl := Option.some.inj h
  exact ⟨⟨by simp [binOp, equal_in hT], by simp [binOp, equal_in hT]⟩, .inr fun op ox oy => by unfold eqGuard; split <;> simp⟩
 ·cases h
theorem eqGuard_nc {T : TypeId} {ox oy : Operand} (hc : (isC ox || isC oy) = true) (op : BinOp) (w : World) : (eqGuard op T ox oy .nilIface .nilIface).run P w = .ok () w := by
 unfold eqGuard
 cases ox <;> cases oy <;> first | (cases hc; done) | (split <;> simp)
theorem JO.eqIface {T T' : TypeId} {x y : Operand} {ms : Array (String × TypeId)} {a b : AV} {r ne : Bool} (hT : P.underlying T = some (.interface ms)) (h : niB (isC x || isC y) a b = some r) (hx : ev t x = a) (hy : ev t y = b) (hd : dok N d = true)
  (K : JO P N ops Q os (t.putO d (.p (.bool (bif ne then !r else r)))) L) : JO P N ops Q (⟨d, .binOp (bif ne then .neq else .eql) T x y T', ty, pos, af, none⟩ :: os) t L :=
 JO.still hd (fun c w s => by
  have e1 := s.ev x
  have e2 := s.ev y
  rw [hx] at e1
  rw [hy] at e2
  obtain ⟨h1, h2⟩ := equal_niB hT h e1 e2
  have hg : ∀ op, (eqGuard op T x y (c.eval x) (c.eval y)).run P w = .ok () w := by
   intro op
   rcases h2 with ⟨e3, e4, hc⟩ | h2
   ·rw [e3, e4]
    exact eqGuard_nc hc op w
   ·exact h2 op x y
  refine ⟨.bool (bif ne then !r else r), ?_, by simp [VS]⟩
  cases ne
  ·simp [execOp, hg, h1.1]
  ·simp [execOp, hg, h1.2]) K
theorem equal_pn' {T e : TypeId} (hT : P.underlying T = some (.pointer e)) (q : Addr) (w : World) (n : Nat) : (Op.equalIn (n + 1) T (.pointer (some q)) (.pointer none)).run P w = .ok false w := by
 simp only [Op.equalIn, Sem.run_bind, run_underlying hT, Result.andThen_ok]
 rfl
theorem equal_pp' {T e : TypeId} (hT : P.underlying T = some (.pointer e)) (w : World) (n : Nat) : (Op.equalIn (n + 1) T (.pointer none) (.pointer none)).run P w = .ok true w := by
 simp only [Op.equalIn, Sem.run_bind, run_underlying hT, Result.andThen_ok]
 rfl
theorem equal_pn {T e : TypeId} (hT : P.underlying T = some (.pointer e)) (q : Addr) (w : World) : (Op.equal T (.pointer (some q)) (.pointer none)).run P w = .ok false w := equal_pn' hT q w 9999
theorem equal_pp {T e : TypeId} (hT : P.underlying T = some (.pointer e)) (w : World) : (Op.equal T (.pointer none) (.pointer none)).run P w = .ok true w := equal_pp' hT w 9999
def niP : AV → Option Bool
 | .ptr _ _ => some false
 | .fp _ => some false
 | .p (.pointer none) => some true
 | _ => none
theorem JO.eqPtr {T T' e : TypeId} {x y : Operand} {a : AV} {r ne : Bool} (hT : P.underlying T = some (.pointer e)) (h : niP a = some r) (hx : ev t x = a) (hy : ev t y = .p (.pointer none)) (hd : dok N d = true)
  (K : JO P N ops Q os (t.putO d (.p (.bool (bif ne then !r else r)))) L) : JO P N ops Q (⟨d, .binOp (bif ne then .neq else .eql) T x y T', ty, pos, af, none⟩ :: os) t L :=
 JO.still hd (fun c w s => by
  have e1 := s.ev x
  have e2 := s.ev y
  rw [hx] at e1
  rw [hy] at e2
  simp only [VS] at e2
  have hg : ∀ op z, (eqGuard op T x y (.pointer z) (.pointer none)).run P w = .ok () w := by
   intro op z
   unfold eqGuard
   split <;> simp
  refine ⟨.bool (bif ne then !r else r), ?_, by simp [VS]⟩
  unfold niP at h
  split at h
  ·obtain rfl := Option.some.inj h
   simp only [VS] at e1
   cases ne
   ·simp [execOp, e1, e2, hg, binOp, equal_pn hT]
   ·simp [execOp, e1, e2, hg, binOp, equal_pn hT]
  ·obtain rfl := Option.some.inj h
   simp only [VS] at e1
   obtain ⟨q, vs, e1, -, -⟩ := e1
   cases ne
   ·simp [execOp, e1, e2, hg, binOp, equal_pn hT]
   ·simp [execOp, e1, e2, hg, binOp, equal_pn hT]
  ·obtain rfl := Option.some.inj h
   simp only [VS] at e1
   cases ne
   ·simp [execOp, e1, e2, hg, binOp, equal_pp hT]
   ·simp [execOp, e1, e2, hg, binOp, equal_pp hT]
  ·cases h) K
theorem JO.strSl {S T e : TypeId} {x : Operand} {g off n : Nat} {r : Row} {bs : List UInt8} (hS : P.underlying S = some (.slice e)) (hT : P.underlying T = some .string) (he : P.underlying e = some (.int .u8))
  (hx : ev t x = .sl g 1 off n) (hr : L g = some r) (hb : ∀ i b, bs[i]? = some b → r.cs[off + i]? = some (byteAV b)) (hn : n = bs.length) (hd : dok N d = true)
  (K : JO P N ops Q os (t.putO d (.p (.string (ofBytes bs)))) L) : JO P N ops Q (⟨d, .convert S T x, ty, pos, af, none⟩ :: os) t L :=
 JO.still hd (fun a w s => by
  have e1 := s.ev x
  rw [hx] at e1
  simp only [VS] at e1
  obtain ⟨ad, cap, e1, hle, hc⟩ := e1
  refine ⟨.string (ofBytes bs), ?_, by simp [VS]⟩
  rcases (s.rows g r hr).cs with hrc | hrc
  case inr =>
   have hbs : bs = [] := by
    cases bs with
    | nil => rfl
    | cons b bs => have := hb 0 b rfl; rw [hrc] at this; simp at this
   have : (convert S T (a.eval x)).run P w = .ok (.string (ofBytes bs)) w := by
    rw [e1]
    exact run_strOf hS hT he hn (.inl hbs)
   simp [execOp, this]
  obtain ⟨c, fr, vs, hh, _, _, hl, hvs, hv, _⟩ := hrc
  have : (convert S T (a.eval x)).run P w = .ok (.string (ofBytes bs)) w := by
   rw [e1]
   refine run_strOf hS hT he hn ?_
   rcases hc with hc | ⟨rfl, _⟩
   ·left
    have : bs.length = 0 := by omega
    exact List.length_eq_zero_iff.1 this
   ·refine .inr ⟨_, rfl, fun i v hi => ?_⟩
    rw [List.getElem?_map] at hi
    cases hb' : bs[i]? with
    | none => rw [hb'] at hi; cases hi
    | some b =>
     rw [hb'] at hi
     obtain rfl := Option.some.inj hi
     obtain ⟨v, h1, h2⟩ := hv.get _ _ (hb i b hb')
     simp only [byteAV, VS] at h2
     subst h2
     rw [hvs, List.getElem?_take] at h1
     split at h1
     ·rw [add_plain]
      unfold World.cell?
      simp only [hh]
      rw [← Array.getElem?_toList]
      exact h1
     ·cases h1
  simp [execOp, this]) K
theorem JO.strFz {S T e : TypeId} {x : Operand} {n : Nat} {bs : List UInt8} (hS : P.underlying S = some (.slice e)) (hT : P.underlying T = some .string) (he : P.underlying e = some (.int .u8))
  (hx : ev t x = .fz n (bs.map byteAV)) (hn : n = bs.length) (hd : dok N d = true)
  (K : JO P N ops Q os (t.putO d (.p (.string (ofBytes bs)))) L) : JO P N ops Q (⟨d, .convert S T x, ty, pos, af, none⟩ :: os) t L :=
 JO.still hd (fun a w s => by
  have e1 := s.ev x
  rw [hx] at e1
  simp only [VS] at e1
  obtain ⟨ad, cap, vs, e1, hle, hc, hv⟩ := e1
  refine ⟨.string (ofBytes bs), ?_, by simp [VS]⟩
  have hv' := VSL.of_p (fun b : UInt8 => Value.int .u8 b.toNat) bs vs hv
  have : (convert S T (a.eval x)).run P w = .ok (.string (ofBytes bs)) w := by
   rw [e1]
   refine run_strOf hS hT he hn ?_
   rcases hc with hc | ⟨ad', rfl, _, _, hc⟩
   ·left
    rw [hc] at hv'
    cases bs with
    | nil => rfl
    | cons b l => simp at hv'
   ·exact .inr ⟨ad', rfl, fun i v hi => hc i v (by rw [hv']; exact hi)⟩
  simp [execOp, this]) K
theorem JO.strNil {S T e : TypeId} {x : Operand} (hS : P.underlying S = some (.slice e)) (hT : P.underlying T = some .string) (he : P.underlying e = some (.int .u8))
  (hx : ev t x = .p (.slice none 0 0)) (hd : dok N d = true)
  (K : JO P N ops Q os (t.putO d (.p (.string (ofBytes [])))) L) : JO P N ops Q (⟨d, .convert S T x, ty, pos, af, none⟩ :: os) t L :=
 JO.still hd (fun a w s => by
  have e1 := s.ev x
  rw [hx] at e1
  simp only [VS] at e1
  refine ⟨.string (ofBytes []), ?_, by simp [VS]⟩
  have : (convert S T (a.eval x)).run P w = .ok (.string (ofBytes [])) w := by
   rw [e1]
   exact run_strOf hS hT he rfl (.inl rfl)
  simp [execOp, this]) K
theorem JO.slice3 {T e : TypeId} {x hi mx : Operand} {n : Nat} {cs : List AV} {ti : TypeInfo} {k k' : IntKind} (hT : P.underlying T = some (.slice e)) (hI : P.info? e = some ti)
  (hx : ev t x = .fz n cs) (hh : ev t hi = .p (.int k n)) (hm : ev t mx = .p (.int k' n)) (hd : dok N d = true)
  (K : JO P N ops Q os (t.putO d (.fzc n cs)) L) : JO P N ops Q (⟨d, .slice T x none (some hi) (some mx), ty, pos, af, none⟩ :: os) t L :=
 JO.still hd (fun a w s => by
  have e1 := s.ev x
  have e2 := s.ev hi
  have e3 := s.ev mx
  rw [hx] at e1
  rw [hh] at e2
  rw [hm] at e3
  simp only [VS] at e1 e2 e3
  obtain ⟨ad, cap, vs, e1, hle, hc, hv⟩ := e1
  refine ⟨.slice ad n n, ?_, by simp only [VS]; exact ⟨ad, vs, rfl, hc, hv⟩⟩
  have : (Instr.sliceAt T (.slice ad n cap) none (some (.int k n)) (some (.int k' n))).run P w = .ok (.slice (if n = 0 then ad else ad.map (·.add (0 * ti.size))) n n) w := by
   have b1 : ∀ c, (Instr.sliceBound (.int k' (n : Int)) cap c).run P w = .ok n w := fun c => run_bound (by omega) (by omega)
   have b2 : ∀ c, (Instr.sliceBound (.int k (n : Int)) n c).run P w = .ok n w := fun c => run_bound (by omega) (by omega)
   simp [Instr.sliceAt, run_underlying hT, Instr.slice, Instr.sliceBounds, b1, b2, sizeOf, typeInfo, hI]
  have e0 : (if n = 0 then ad else ad.map (·.add (0 * ti.size))) = ad := by
   split
   ·rfl
   ·cases ad with
    | none => rfl
    | some a => simp [Addr.add]
  rw [e0] at this
  simp [execOp, e1, e2, e3, this]) K
theorem JO.appendC {T e : TypeId} {x y : Operand} {cs ys : List AV} {sz n m : Nat} {ti : TypeInfo} {z : Value} (hT : P.underlying T = some (.slice e)) (hi : P.info? e = some ti) (hz : ti.zero = some z) (hs : ti.size = sz) (hzz : z.cells.size = sz)
  (hx : ev t x = .fzc n cs ∨ ev t x = .p (.slice none 0 0) ∧ n = 0 ∧ cs = []) (hl : cs.length = n * sz) (hy : srcOf L (ev t y) = some (m, ys)) (hm : ys.length = m * sz) (hb : (n + m) * ti.bytes ≤ 140737488355328) (hb2 : n + m ≤ 140737488355328) (hsz : 0 < sz) (hd : dok N d = true)
  (K : JO P N ops Q os (t.putO d (.fz (n + m) (cs ++ ys))) L) :
  JO P N ops Q (⟨d, .call { callee := .builtin .append, args := #[x, y], argTypes := #[T, T] }, ty, pos, af, none⟩ :: os) t L :=
 JO.value (dok_lt hd) fun a w s => by
  have ex : VS L w (.fzc n cs) (a.eval x) := by
   have ex := s.ev x
   rcases hx with hx | ⟨hx, rfl, rfl⟩
   ·rw [hx] at ex; exact ex
   ·rw [hx] at ex
    simp only [VS] at ex ⊢
    exact ⟨none, [], ex, .inl rfl, by simp [VSL]⟩
  simp only [VS] at ex
  obtain ⟨xa, vs, ex', hc, hv⟩ := ex
  obtain ⟨ya, yc, us, ey, hus, h1us, hcy⟩ := src_run (P := P) s.rows hy (s.ev y)
  have hrun : ∀ v w', (Builtin.append_ #[T, T] ty #[a.eval x, a.eval y]).run P w = .ok v w' → (execOp a.eval ⟨d, .call { callee := .builtin .append, args := #[x, y], argTypes := #[T, T] }, ty, pos, af, none⟩).run P w = .ok (.value v) w' := by
   intro v w' hv
   simp only [execOp, resolve, invoke, builtin, List.map_toArray, Sem.run_bind, Sem.run_pure, Result.andThen_ok] at hv ⊢
   simp only [List.map_cons, List.map_nil] at hv ⊢
   rw [hv]
   rfl
  have hul := hus.length
  have hvl := hv.length
  have hus' : us.length = m * ti.size := by rw [hs]; omega
  have hvs' : vs.length = n * ti.size := by rw [hs]; omega
  have hold : vs = [] ∨ ∃ ad, xa = some ad ∧ ∀ i v, vs[i]? = some v → w.cell? (ad.add i) = some v := by
   rcases hc with hc | ⟨ad, h1, _, _, h2⟩
   ·exact .inl hc
   ·exact .inr ⟨ad, h1, h2⟩
  have h1v : ∀ v ∈ vs, v.oneCell' = true := by
   rcases hc with hc | ⟨ad, _, _, h1, _⟩
   ·rw [hc]; simp
   ·exact h1
  by_cases hm0 : m = 0
  ·subst hm0
   have hus0 : us = [] := List.length_eq_zero_iff.1 (by omega)
   subst hus0
   have hys0 : ys = [] := List.length_eq_zero_iff.1 (by omega)
   subst hys0
   have hr := run_append_in (ty := ty) (w := w) (w' := w) (a := xa) (n := n) (cap := n) hT hi (run_src (P := P) (w := w) (ya := ya) (yc := yc) hus' (.inl rfl)) (Nat.le_refl _) (fun b _ => by simp [storeCells]) (fun _ => rfl)
   refine ⟨_, w, _, L, hrun _ _ (by rw [ex', ey]; exact hr), Ext.refl _ _, s.rows, ?_, K⟩
   simp only [VS]
   rw [List.append_nil]
   exact ⟨xa, n, vs, rfl, Nat.le_refl _, hc, hv⟩
  ·have h63 : ((n + m : Nat) : Int) ≤ 9223372036854775807 := by omega
   have hr := run_append_out (ty := ty) (w := w) (a := xa) (n := n) (cap := n) (vs := vs) hT hi hz (run_src (P := P) (w := w.drew) hvs' hold) (run_src (P := P) (w := w.drew) (ya := ya) (yc := yc) hus' hcy) (by omega) h63
    (growslice_fits (by omega) hb)
   have hp : Push w (w.drew.alloc (.cells (vs ++ us ++ (Builtin.zeroCells z.cells (grownCap w (n + m) n e - (n + m))).toList).toArray e)) (.cells ((vs ++ us) ++ (Builtin.zeroCells z.cells (grownCap w (n + m) n e - (n + m))).toList).toArray e (0, 0)) := Push.drew w _
   refine ⟨_, _, _, L, hrun _ _ (by rw [ex', ey]; exact hr), hp.ext L, hp.rows0 s.rows, ?_, K⟩
   simp only [VS]
   refine ⟨_, _, vs ++ us, rfl, grownCap_ge _ _ _ _, .inr ⟨_, rfl, fresh_of s.rows, ?_, fun i v hi => ?_⟩, (VSL.ext (hp.ext L) _ _ hv).append (VSL.ext (hp.ext L) _ _ hus)⟩
   ·intro v hv'
    rcases List.mem_append.1 hv' with h | h
    ·exact h1v v h
    ·exact h1us v h
   ·rw [add_plain, Nat.zero_add]
    simp only [World.cell?, hp.new]
    have hlt := (List.getElem?_eq_some_iff.1 hi).1
    simp only [Option.isSome_none, Bool.false_eq_true, if_false, List.getElem?_toArray]
    rw [List.getElem?_append_left hlt]
    exact hi
end
end Go.Proofs.YtaglpckihegmoaaDoorAv
namespace Go.Proofs.YtaglpckihegmoaaDoorAv
open Go Go.RowKit
section
variable {P : Program} {N : Nat} {ops : Array Oper} {Q : Exit → TM → GH → Prop} {d : Option Nat} {ty : TypeId} {pos : String} {af : Array Edge} {os : List Oper} {t : TM} {L : GH}
theorem Push.rowsIt {w w2 : World} {b : ByteArray} {p : Nat} (h : Push w w2 (.stringIter b p)) {L : GH} (hr : ∀ g r, L g = some r → RowR L w g r) :
  ∀ g r, upd L w.heap.size ⟨0, .it b p, []⟩ g = some r → RowR (upd L w.heap.size ⟨0, .it b p, []⟩) w2 g r := by
 intro g r hg
 have hx := h.ext' L ⟨0, .it b p, []⟩
 by_cases hgs : g = w.heap.size
 ·subst hgs
  rw [upd_same] at hg
  obtain rfl := Option.some.inj hg
  exact ⟨rfl, h.new⟩
 ·rw [upd_ne _ _ _ _ hgs] at hg
  have k := hr g r hg
  exact k.ext hx (h.old k.lt)
theorem JO.range {T : TypeId} {x : Operand} {b : ByteArray} (hT : P.underlying T = some .string) (hx : ev t x = .p (.string b)) (hd : dok N d = true)
  (K : ∀ g, L g = none → JO P N ops Q os (t.putO d (.ptr g 0)) (upd L g ⟨0, .it b 0, []⟩)) : JO P N ops Q (⟨d, .range T x, ty, pos, af, none⟩ :: os) t L :=
 JO.value (dok_lt hd) fun a w s => by
  have e1 := s.ev x
  rw [hx] at e1
  simp only [VS] at e1
  have hp : Push w (w.iter b 0) (.stringIter b 0) := Push.alloc w _
  refine ⟨.pointer (some ⟨w.heap.size, 0, none⟩), w.iter b 0, .ptr w.heap.size 0, upd L w.heap.size ⟨0, .it b 0, []⟩, ?_, hp.ext' L _, hp.rowsIt s.rows, by simp [VS], K _ (fresh_of s.rows)⟩
  have := run_range_string (P := P) w T b hT
  simp [execOp, e1, this]
theorem step_iter {w : World} {L : GH} {g : Nat} {b : ByteArray} {p : Nat} (q : Nat) (hr : ∀ g r, L g = some r → RowR L w g r) (hL : L g = some ⟨0, .it b p, []⟩) :
  Ext L w (upd L g ⟨0, .it b q, []⟩) { w with heap := w.heap.setIfInBounds g (.stringIter b q) } ∧
   ∀ g' r', upd L g ⟨0, .it b q, []⟩ g' = some r' → RowR (upd L g ⟨0, .it b q, []⟩) { w with heap := w.heap.setIfInBounds g (.stringIter b q) } g' r' := by
 obtain ⟨-, hh⟩ := hr g _ hL
 have hlt : g < w.heap.size := (Array.getElem?_eq_some_iff.1 hh).1
 have hx : Ext L w (upd L g ⟨0, .it b q, []⟩) { w with heap := w.heap.setIfInBounds g (.stringIter b q) } := by
  refine ⟨rfl, rfl, rfl, by simp, fun b' hb hl => ?_, fun b' hb hl => ?_, fun b' c e fr hc => ?_⟩
  ·have : g ≠ b' := by rintro rfl; rw [hL] at hl; cases hl
   simp [Array.getElem?_setIfInBounds, this]
  ·rw [upd_ne]
   ·exact hl
   ·rintro rfl; rw [hL] at hl; cases hl
  ·have : g ≠ b' := by rintro rfl; rw [hh] at hc; cases hc
   exact ⟨c, e, fr, by simpa [Array.getElem?_setIfInBounds, this] using hc, rfl⟩
 refine ⟨hx, fun g' r' hg' => ?_⟩
 by_cases hgg : g' = g
 ·subst hgg
  rw [upd_same] at hg'
  obtain rfl := Option.some.inj hg'
  exact ⟨rfl, by simp [hlt]⟩
 ·rw [upd_ne _ _ _ _ hgg] at hg'
  exact (hr g' r' hg').ext hx (by simp [Array.getElem?_setIfInBounds, Ne.symm hgg])
theorem JO.next {x : Operand} {g : Nat} {b : ByteArray} {p : Nat} (hx : ev t x = .ptr g 0) (hL : L g = some ⟨0, .it b p, []⟩) (hd : dok N d = true)
  (K1 : p < b.size → JO P N ops Q os (t.putO d (.tup [.p (.bool true), .p (.int .i64 p), .p (.int .i32 (Utf8.decode b p).1)])) (upd L g ⟨0, .it b (p + (Utf8.decode b p).2), []⟩))
  (K2 : b.size ≤ p → JO P N ops Q os (t.putO d (.tup [.p (.bool false)])) L) : JO P N ops Q (⟨d, .next x true, ty, pos, af, none⟩ :: os) t L :=
 JO.value (dok_lt hd) fun a w s => by
  have e1 := s.ev x
  rw [hx] at e1
  simp only [VS] at e1
  obtain ⟨-, hh⟩ := s.rows g _ hL
  have hh : w.heap[g]? = some (.stringIter b p) := hh
  rcases Nat.lt_or_ge p b.size with h | h
  ·obtain ⟨h1, h2⟩ := step_iter (p + (Utf8.decode b p).2) s.rows hL
   refine ⟨.tuple #[.bool true, .int .i64 p, .int .i32 (Utf8.decode b p).1], _, _, _, ?_, h1, h2, ?_, K1 h⟩
   ·simp [execOp, e1, Instr.next, getObj, setObj, Sem.run, hh, h, goInt]
   ·simp [VS, VSL]
  ·refine ⟨.tuple #[.bool false], w, _, L, ?_, Ext.refl L w, s.rows, ?_, K2 h⟩
   ·simp [execOp, e1, Instr.next, getObj, Sem.run, hh, Nat.not_lt.2 h]
   ·simp [VS, VSL]
end
end Go.Proofs.YtaglpckihegmoaaDoorAv
namespace Go.Proofs.YtaglpckihegmoaaDoorAv
open Go Go.RowKit
def mfind (k : MK) : List (MK × Value) → Option Value
 | [] => none
 | (k', v) :: l => bif keqB k k' then some v else mfind k l
def mput (l : List (MK × Value)) (k : MK) (v : Value) : List (MK × Value) := match l with
 | [] => [(k, v)]
 | (k', v') :: l => bif keqB k k' then (k, v) :: l else (k', v') :: mput l k v
theorem keqB_eq {k k' : MK} (h : keqB k k' = true) : k = k' := by
 cases k <;> cases k' <;> simp [keqB] at h <;> rw [h]
theorem ba_beq (a b : ByteArray) : (a == b) = decide (a = b) := by
 rw [Bool.eq_iff_iff, decide_eq_true_eq]
 obtain ⟨a⟩ := a
 obtain ⟨b⟩ := b
 show ((a == b) = true) ↔ _
 rw [beq_iff_eq]
 exact ⟨fun h => by rw [h], fun h => by injection h⟩
theorem sameNow_ok {D : TypeDesc} {k k' : MK} (h : k.ty D = true) (h' : k'.ty D = true) : Instr.sameNow D k.val k'.val = some (keqB k k') := by
 cases k <;> cases k' <;> cases D <;> simp [MK.ty] at h h' <;> simp [Instr.sameNow, MK.val, keqB, ba_beq]
theorem findNow_ok {D : TypeDesc} {k : MK} (hk : k.ty D = true) (v : Value) : ∀ (es : List MapEntry) (l : List (MK × Value)) (i : Nat), es.map (fun e => (e.key, e.val)) = l.map (fun p => (p.1.val, p.2)) → (∀ p ∈ l, p.1.ty D = true) →
  (Instr.findNow D k.val es i = some none ∧ mfind k l = none ∧ mput l k v = l ++ [(k, v)]) ∨
  ∃ j x, Instr.findNow D k.val es i = some (some (i + j, x)) ∧ mfind k l = some x ∧ (es[j]?).map (·.key) = some k.val ∧ (es.modify j fun e => { e with key := k.val, val := v }).map (fun e => (e.key, e.val)) = (mput l k v).map fun p => (p.1.val, p.2)
 | [], [], i, _, _ => .inl ⟨rfl, rfl, rfl⟩
 | [], _ :: _, i, h, _ => by simp at h
 | _ :: _, [], i, h, _ => by simp at h
 | e :: es, (k', v') :: l, i, h, ht => by
  simp only [List.map_cons, List.cons.injEq, Prod.mk.injEq] at h
  obtain ⟨⟨h1, h2⟩, h3⟩ := h
  have hs : Instr.sameNow D k.val e.key = some (keqB k k') := by rw [h1]; exact sameNow_ok hk (ht (k', v') (.head _))
  cases hq : keqB k k'
  ·rw [hq] at hs
   have ih := findNow_ok hk v es l (i + 1) h3 fun p hp => ht p (.tail _ hp)
   rcases ih with ⟨a1, a2, a3⟩ | ⟨j, x, a1, a2, a3, a4⟩
   ·left
    refine ⟨?_, ?_, ?_⟩
    ·rw [Instr.findNow, hs]; exact a1
    ·rw [mfind, hq]; exact a2
    ·rw [mput, hq, a3]; rfl
   ·right
    refine ⟨j + 1, x, ?_, ?_, ?_, ?_⟩
    ·rw [Instr.findNow, hs, a1]
     show some (some (i + 1 + j, x)) = _
     rw [show i + 1 + j = i + (j + 1) by omega]
    ·rw [mfind, hq]; exact a2
    ·rw [List.getElem?_cons_succ]; exact a3
    ·rw [mput, hq, List.modify_succ_cons, List.map_cons, a4]
     show (e.key, e.val) :: _ = (k'.val, v') :: _
     rw [h1, h2]
  ·rw [hq] at hs
   obtain rfl := keqB_eq hq
   right
   refine ⟨0, e.val, ?_, ?_, ?_, ?_⟩
   ·rw [Instr.findNow, hs]; rfl
   ·rw [mfind, hq, h2]; rfl
   ·rw [List.getElem?_cons_zero]; simp [h1]
   ·rw [mput, hq, List.modify_zero_cons, List.map_cons, h3]; rfl
theorem same_bits (k : MK) : Instr.sameBits 10000 k.val k.val = true := by
 cases k <;> simp [MK.val, Instr.sameBits, ba_beq]
section
variable {P : Program} {N : Nat} {ops : Array Oper} {Q : Exit → TM → GH → Prop} {d : Option Nat} {ty : TypeId} {pos : String} {af : Array Edge} {os : List Oper} {t : TM} {L : GH}
theorem Births.push {es : Array MapEntry} {clock : Nat} {k z : Value} (h : Births es clock) : Births (es.push { key := k, val := z, born := clock }) (clock + 1) := by
 unfold Births at *
 rw [Array.toList_push, List.map_append]
 refine ⟨fun b hb => ?_, ?_⟩
 ·rcases List.mem_append.1 hb with hb | hb
  ·exact Nat.lt_succ_of_lt (h.1 b hb)
  ·obtain rfl := List.mem_singleton.1 hb; exact Nat.lt_succ_self _
 ·rw [List.nodup_append]
  refine ⟨h.2, by simp, fun a ha b hb => ?_⟩
  obtain rfl := List.mem_singleton.1 hb
  exact Nat.ne_of_lt (h.1 a ha)
theorem born_modify {f : MapEntry → MapEntry} (hf : ∀ e, (f e).born = e.born) : ∀ (l : List MapEntry) (j : Nat), (l.modify j f).map (·.born) = l.map (·.born)
 | [], j => by simp
 | e :: l, 0 => by simp [hf]
 | e :: l, j + 1 => by simp [born_modify hf l j]
theorem Births.modify {es : Array MapEntry} {clock : Nat} (h : Births es clock) (j : Nat) (f : MapEntry → MapEntry) (hf : ∀ e, (f e).born = e.born) : Births (es.modify j f) clock := by
 unfold Births at *
 rw [Array.toList_modify, born_modify hf]
 exact h
theorem Push.rowsMp {w w2 : World} (h : Push w w2 (.map #[] 0)) {L : GH} (hr : ∀ g r, L g = some r → RowR L w g r) :
  ∀ g r, upd L w.heap.size ⟨0, .mp [], []⟩ g = some r → RowR (upd L w.heap.size ⟨0, .mp [], []⟩) w2 g r := by
 intro g r hg
 have hx := h.ext' L ⟨0, .mp [], []⟩
 by_cases hgs : g = w.heap.size
 ·subst hgs
  rw [upd_same] at hg
  obtain rfl := Option.some.inj hg
  exact ⟨rfl, _, _, h.new, rfl, by simp [Births]⟩
 ·rw [upd_ne _ _ _ _ hgs] at hg
  have k := hr g r hg
  exact k.ext hx (h.old k.lt)
theorem JO.makeMap {T : TypeId} (hd : dok N d = true) (K : ∀ g, L g = none → JO P N ops Q os (t.putO d (.p (.map (some g)))) (upd L g ⟨0, .mp [], []⟩)) :
  JO P N ops Q (⟨d, .makeMap T none, ty, pos, af, none⟩ :: os) t L :=
 JO.value (dok_lt hd) fun a w s => by
  have hp : Push w (w.alloc (.map #[] 0)) (.map #[] 0) := Push.alloc w _
  refine ⟨.map (some w.heap.size), w.alloc (.map #[] 0), .p (.map (some w.heap.size)), upd L w.heap.size ⟨0, .mp [], []⟩, ?_, hp.ext' L _, hp.rowsMp s.rows, by simp [VS], K _ (fresh_of s.rows)⟩
  simp [execOp, Instr.makeMap, newObj, Sem.run]
theorem run_checkKey {w : World} {kt : TypeId} {D : TypeDesc} {k : MK} (hk : k.ty D = true) (hT : P.underlying kt = some D) (b : Bool) : (Instr.checkKey b 10000 kt k.val).run P w = .ok () w := by
 have e : ∀ n, (Instr.checkKey b (n + 1) kt k.val).run P w = .ok () w := by
  intro n
  cases k <;> cases D <;> simp [MK.ty] at hk <;> simp [Instr.checkKey, run_underlying hT, MK.val]
 exact e 9999
theorem JO.lookup {T kt et : TypeId} {D : TypeDesc} {x y : Operand} {g : Nat} {l : List (MK × Value)} {k : MK} {z : Value} {sz b : Nat} (hT : P.underlying T = some (.map kt et)) (hK : P.underlying kt = some D) (hI : TI P et z sz b)
  (hx : ev t x = .p (.map (some g))) (hy : ev t y = .p k.val) (hL : L g = some ⟨0, .mp l, []⟩) (hk : k.ty D = true) (hl : ∀ p ∈ l, p.1.ty D = true) (hd : dok N d = true)
  (K : JO P N ops Q os (t.putO d (.p ((mfind k l).getD z))) L) : JO P N ops Q (⟨d, .lookup T x y false, ty, pos, af, none⟩ :: os) t L :=
 JO.still hd (fun a w s => by
  have e1 := s.ev x
  have e2 := s.ev y
  rw [hx] at e1
  rw [hy] at e2
  simp only [VS] at e1 e2
  obtain ⟨-, es, clock, hh, he, -⟩ := s.rows g _ hL
  obtain ⟨ti, h1, h2, h3, h4⟩ := hI.get
  have hf := findNow_ok hk z es.toList l 0 he hl
  refine ⟨(mfind k l).getD z, ?_, by simp [VS]⟩
  rcases hf with ⟨a1, a2, -⟩ | ⟨j, v, a1, a2, -, -⟩
  ·simp [execOp, e1, e2, Instr.lookup, run_underlying hT, getObj, Sem.run, hh, run_checkKey hk hK, Instr.findKey, run_underlying hK, a1, a2, zeroValue, typeInfo, h1, h2]
  ·simp [execOp, e1, e2, Instr.lookup, run_underlying hT, getObj, Sem.run, hh, run_checkKey hk hK, Instr.findKey, run_underlying hK, a1, a2]) K
theorem step_map {w : World} {L : GH} {g : Nat} {l l' : List (MK × Value)} {es' : Array MapEntry} {clock' : Nat} (hr : ∀ g r, L g = some r → RowR L w g r) (hL : L g = some ⟨0, .mp l, []⟩) (he : es'.toList.map (fun e => (e.key, e.val)) = l'.map fun p => (p.1.val, p.2)) (hb' : Births es' clock') :
  Ext L w (upd L g ⟨0, .mp l', []⟩) { w with heap := w.heap.setIfInBounds g (.map es' clock') } ∧
   ∀ g' r', upd L g ⟨0, .mp l', []⟩ g' = some r' → RowR (upd L g ⟨0, .mp l', []⟩) { w with heap := w.heap.setIfInBounds g (.map es' clock') } g' r' := by
 obtain ⟨-, es, clock, hh, -⟩ := hr g _ hL
 have hlt : g < w.heap.size := (Array.getElem?_eq_some_iff.1 hh).1
 have hx : Ext L w (upd L g ⟨0, .mp l', []⟩) { w with heap := w.heap.setIfInBounds g (.map es' clock') } := by
  refine ⟨rfl, rfl, rfl, by simp, fun b' hb hl => ?_, fun b' hb hl => ?_, fun b' c e fr hc => ?_⟩
  ·have : g ≠ b' := by rintro rfl; rw [hL] at hl; cases hl
   simp [Array.getElem?_setIfInBounds, this]
  ·rw [upd_ne]
   ·exact hl
   ·rintro rfl; rw [hL] at hl; cases hl
  ·have : g ≠ b' := by rintro rfl; rw [hh] at hc; cases hc
   exact ⟨c, e, fr, by simpa [Array.getElem?_setIfInBounds, this] using hc, rfl⟩
 refine ⟨hx, fun g' r' hg' => ?_⟩
 by_cases hgg : g' = g
 ·subst hgg
  rw [upd_same] at hg'
  obtain rfl := Option.some.inj hg'
  exact ⟨rfl, es', clock', by simp [hlt], he, hb'⟩
 ·rw [upd_ne _ _ _ _ hgg] at hg'
  exact (hr g' r' hg').ext hx (by simp [Array.getElem?_setIfInBounds, Ne.symm hgg])
theorem JO.mapPut {op : Op} (hnd : ∀ c, op ≠ .defer c) {T kt et : TypeId} {D : TypeDesc} {x y v : Operand} {g : Nat} {l : List (MK × Value)} {k : MK} {z : Value} (hop : ∀ e, execOp e ⟨d, op, ty, pos, af, none⟩ = execOp e ⟨d, .mapUpdate T x y v, ty, pos, af, none⟩) (hT : P.underlying T = some (.map kt et)) (hK : P.underlying kt = some D)
  (hx : ev t x = .p (.map (some g))) (hy : ev t y = .p k.val) (hz : ev t v = .p z) (hL : L g = some ⟨0, .mp l, []⟩) (hk : k.ty D = true) (hl : ∀ p ∈ l, p.1.ty D = true) (hd : dok N d = true)
  (K : JO P N ops Q os (t.putO d (.p undef)) (upd L g ⟨0, .mp (mput l k z), []⟩)) : JO P N ops Q (⟨d, op, ty, pos, af, none⟩ :: os) t L := by
 refine JO.op rfl (fun _ => t) (hnd := hnd) fun ro L0 w0 a w he s => ?_
 have e1 := s.ev x
 have e2 := s.ev y
 have e3 := s.ev v
 rw [hx] at e1
 rw [hy] at e2
 rw [hz] at e3
 simp only [VS] at e1 e2 e3
 obtain ⟨-, es, clock, hh, hes, hbi⟩ := s.rows g _ hL
 have hf := findNow_ok hk z es.toList l 0 hes hl
 have hmain : ∃ es' clock', (execOp a.eval ⟨d, .mapUpdate T x y v, ty, pos, af, none⟩).run P w = .ok .skip { w with heap := w.heap.setIfInBounds g (.map es' clock') } ∧ es'.toList.map (fun e => (e.key, e.val)) = ((mput l k z).map fun p => (p.1.val, p.2)) ∧ Births es' clock' := by
  rcases hf with ⟨a1, a2, a3⟩ | ⟨j, x', a1, a2, a3, a4⟩
  ·refine ⟨es.push { key := k.val, val := z, born := clock }, clock + 1, ?_, ?_, hbi.push⟩
   ·simp [execOp, e1, e2, e3, Instr.mapUpdate, run_underlying hT, getObj, setObj, Sem.run, hh, run_checkKey hk hK, Instr.findKey, run_underlying hK, a1]
   ·rw [Array.toList_push, List.map_append, hes, a3, List.map_append]; rfl
  ·refine ⟨es.modify j fun e => { e with key := k.val, val := z }, clock, ?_, ?_, hbi.modify j _ fun _ => rfl⟩
   ·have h3 : (es[j]?).map (·.key) = some k.val := by rw [← Array.getElem?_toList]; exact a3
    rw [Nat.zero_add] at a1
    have h4 : ((es[j]?).map (·.key)).getD k.val = k.val := by rw [h3]; rfl
    simp [execOp, e1, e2, e3, Instr.mapUpdate, run_underlying hT, getObj, setObj, Sem.run, hh, run_checkKey hk hK, Instr.findKey, run_underlying hK, a1, Instr.keyThatStays, h4, same_bits]
   ·rw [Array.toList_modify]; exact a4
 obtain ⟨es', clock', hrun, hes', hbi'⟩ := hmain
 obtain ⟨h1, h2⟩ := step_map (clock' := clock') s.rows hL hes' hbi'
 unfold Oper.wp
 rw [hop, hrun]
 simp only [Oper.upon_skip]
 refine K ro L0 w0 _ _ (he.trans h1) ?_
 have s' := s.ext h1 h2
 cases d with
 | none => exact s'
 | some i => exact s'.put i (dok_lt hd i rfl) (by simp [VS])
theorem JO.rangeM {T kt et : TypeId} {x : Operand} {gm : Nat} {l : List (MK × Value)} (hT : P.underlying T = some (.map kt et)) (hx : ev t x = .p (.map (some gm))) (hL : L gm = some ⟨0, .mp l, []⟩) (hd : dok N d = true)
  (K : ∀ g, del L gm g = none → JO P N ops Q os (t.putO d (.ptr g 0)) (upd (del L gm) g ⟨0, .mit gm l 0 none, []⟩)) : JO P N ops Q (⟨d, .range T x, ty, pos, af, none⟩ :: os) t L :=
 JO.value (dok_lt hd) fun a w s => by
  have e1 := s.ev x
  rw [hx] at e1
  simp only [VS] at e1
  obtain ⟨-, es, clock, hh, he, hb⟩ := s.rows gm _ hL
  have hlt : gm < w.heap.size := (Array.getElem?_eq_some_iff.1 hh).1
  have hp : Push w (w.alloc (.mapIter (some gm) clock #[] clock)) (.mapIter (some gm) clock #[] clock) := Push.alloc w _
  have hdel : ∀ b, L b = none → del L gm b = none := fun b h => by unfold del; split <;> first | rfl | exact h
  have hx0 : Ext L w (del L gm) w := Ext.drop w hdel
  have hx1 := hp.ext' (del L gm) ⟨0, .mit gm l 0 none, []⟩
  have hgm : del L gm gm = none := by simp [del]
  have hrun := run_range_map (P := P) w T kt et gm es clock hT hh
  refine ⟨.pointer (some ⟨w.heap.size, 0, none⟩), _, .ptr w.heap.size 0, upd (del L gm) w.heap.size ⟨0, .mit gm l 0 none, []⟩, ?_, hx0.trans hx1, fun g r hg => ?_, by simp [VS], K _ ?_⟩
  ·simp [execOp, e1, hrun]
  ·by_cases hgs : g = w.heap.size
   ·subst hgs
    rw [upd_same] at hg
    obtain rfl := Option.some.inj hg
    refine ⟨rfl, by rw [upd_ne _ _ _ _ (by omega)]; exact hgm, es, clock, #[], hp.new, (hx1.keep gm hlt hgm).trans hh, he, hb, ?_, fun p hp => by cases hp⟩
    have hsz : es.size = l.length := by
     have := congrArg List.length he
     simpa using this
    have h2 : (es.filter fun e => !(#[] : Array Nat).contains e.born).size ≤ es.size := Array.size_filter_le
    omega
   ·rw [upd_ne _ _ _ _ hgs] at hg
    have hr : L g = some r := by
     unfold del at hg
     split at hg
     ·cases hg
     ·exact hg
    have k := s.rows g r hr
    exact (k.ext hx0 rfl).ext hx1 (hp.old k.lt)
  ·exact hdel _ (fresh_of s.rows)
theorem step_mit {w : World} {L : GH} {g gm : Nat} {l : List (MK × Value)} {k k' : Nat} {c c' : Option (MK × Value)} {o : Obj} (hr : ∀ g r, L g = some r → RowR L w g r) (hL : L g = some ⟨0, .mit gm l k c, []⟩) (ho : ∀ (cs : Array Value) e fr, o ≠ .cells cs e fr)
  (hnew : ∀ L', L' gm = none → w.heap[gm]? = (w.heap.setIfInBounds g o)[gm]? → g < w.heap.size → RowR L' { w with heap := w.heap.setIfInBounds g o } g ⟨0, .mit gm l k' c', []⟩) :
  Ext L w (upd L g ⟨0, .mit gm l k' c', []⟩) { w with heap := w.heap.setIfInBounds g o } ∧
   ∀ g' r', upd L g ⟨0, .mit gm l k' c', []⟩ g' = some r' → RowR (upd L g ⟨0, .mit gm l k' c', []⟩) { w with heap := w.heap.setIfInBounds g o } g' r' := by
 obtain ⟨-, h0, es, clock, seen, hh, -⟩ := hr g _ hL
 have hlt : g < w.heap.size := (Array.getElem?_eq_some_iff.1 hh).1
 have hne : gm ≠ g := by rintro rfl; rw [hL] at h0; cases h0
 have hx : Ext L w (upd L g ⟨0, .mit gm l k' c', []⟩) { w with heap := w.heap.setIfInBounds g o } := by
  refine ⟨rfl, rfl, rfl, by simp, fun b' hb hl => ?_, fun b' hb hl => ?_, fun b' c e fr hc => ?_⟩
  ·have : g ≠ b' := by rintro rfl; rw [hL] at hl; cases hl
   simp [Array.getElem?_setIfInBounds, this]
  ·rw [upd_ne]
   ·exact hl
   ·rintro rfl; rw [hL] at hl; cases hl
  ·have : g ≠ b' := by rintro rfl; rw [hh] at hc; cases hc
   exact ⟨c, e, fr, by simpa [Array.getElem?_setIfInBounds, this] using hc, rfl⟩
 refine ⟨hx, fun g' r' hg' => ?_⟩
 by_cases hgg : g' = g
 ·subst hgg
  rw [upd_same] at hg'
  obtain rfl := Option.some.inj hg'
  exact hnew _ (by rw [upd_ne _ _ _ _ hne]; exact h0) (by simp [Array.getElem?_setIfInBounds, Ne.symm hne]) hlt
 ·rw [upd_ne _ _ _ _ hgg] at hg'
  exact (hr g' r' hg').ext hx (by simp [Array.getElem?_setIfInBounds, Ne.symm hgg])
theorem JO.nextM {x : Operand} {g gm : Nat} {l : List (MK × Value)} {k : Nat} {c : Option (MK × Value)} (hx : ev t x = .ptr g 0) (hL : L g = some ⟨0, .mit gm l k c, []⟩) (hd : dok N d = true)
  (K1 : k < l.length → ∀ p ∈ l, JO P N ops Q os (t.putO d (.tup [.p (.bool true), .p p.1.val, .p p.2])) (upd L g ⟨0, .mit gm l (k + 1) (some p), []⟩))
  (K2 : JO P N ops Q os (t.putO d (.tup [.p (.bool false)])) L) : JO P N ops Q (⟨d, .next x false, ty, pos, af, none⟩ :: os) t L :=
 JO.value (dok_lt hd) fun a w s => by
  have e1 := s.ev x
  rw [hx] at e1
  simp only [VS] at e1
  obtain ⟨-, h0, es, clock, seen, hh, hm, he, hb, hk, -⟩ := s.rows g _ hL
  have hold : ∀ e ∈ es.toList, e.born < clock := fun e hm => hb.1 _ (List.mem_map.2 ⟨e, hm, rfl⟩)
  rcases run_next_at (P := P) w ty g gm clock clock seen es clock hh hm hold (Nat.le_refl _) with ⟨-, hrun⟩ | ⟨e, hl, w1, hw1, hrun⟩
  ·refine ⟨.tuple #[.bool false], w, _, L, ?_, Ext.refl L w, s.rows, ?_, K2⟩
   ·simp [execOp, e1, hrun]
   ·simp [VS, VSL]
  ·obtain ⟨hes, hns⟩ := mem_left hl
   have hsh := left_shrinks es seen e hl
   unfold leftOf at hsh
   obtain ⟨p, hpl, hpe⟩ : ∃ p ∈ l, (p.1.val, p.2) = (e.key, e.val) := by
    have : (e.key, e.val) ∈ es.toList.map fun e => (e.key, e.val) := List.mem_map.2 ⟨e, hes, rfl⟩
    rw [he] at this
    obtain ⟨p, h1, h2⟩ := List.mem_map.1 this
    exact ⟨p, h1, h2⟩
   simp only [Prod.mk.injEq] at hpe
   have hx1 : Ext L w L w1 := by
    rcases hw1 with rfl | rfl
    ·exact Ext.refl L _
    ·exact Ext.drew L _
   have hheap : w1.heap = w.heap := by rcases hw1 with rfl | rfl <;> rfl
   have hrows1 : ∀ g r, L g = some r → RowR L w1 g r := fun g r hg => (s.rows g r hg).ext hx1 (by rw [hheap])
   have st := step_mit (k' := k + 1) (c' := some p) (o := .mapIter (some gm) clock (seen.push e.born) clock) hrows1 hL (fun _ _ _ h => by cases h) fun L' hL' hmem hlt => by
    refine ⟨rfl, hL', es, clock, seen.push e.born, ?_, ?_, he, hb, ?_, fun p' hp' => ?_⟩
    ·simp [Array.getElem?_setIfInBounds, hlt]
    ·rw [← hmem, hheap]; exact hm
    ·omega
    ·obtain rfl := Option.some.inj hp'
     exact ⟨seen, e, rfl, hes, hpe.1.symm, hpe.2.symm⟩
   refine ⟨.tuple #[.bool true, e.key, e.val], _, .tup [.p (.bool true), .p p.1.val, .p p.2], _, ?_, hx1.trans st.1, st.2, ?_, K1 (by omega) p hpl⟩
   ·simp [execOp, e1, hrun, Go.ChangeMaps.setBlock]
   ·simp only [VS]
    exact ⟨[.bool true, e.key, e.val], rfl, by simp [VSL, VS, hpe.1, hpe.2]⟩
theorem JO.entryM {x : Operand} {g gm : Nat} {l : List (MK × Value)} {k : Nat} {p : MK × Value} (hx : ev t x = .ptr g 0) (hL : L g = some ⟨0, .mit gm l k (some p), []⟩) (hd : dok N d = true)
  (K : JO P N ops Q os (t.putO d (.tup [.p p.1.val, .p p.2])) L) : JO P N ops Q (⟨d, .entry x, ty, pos, af, none⟩ :: os) t L :=
 JO.value (dok_lt hd) fun a w s => by
  have e1 := s.ev x
  rw [hx] at e1
  simp only [VS] at e1
  obtain ⟨-, h0, es, clock, seen, hh, hm, he, hb, hk, hc⟩ := s.rows g _ hL
  obtain ⟨s0, e, rfl, hes, h1, h2⟩ := hc p rfl
  have hrun := run_entry_at (P := P) w g gm clock s0 es clock e hh hm hes hb.2
  refine ⟨.tuple #[e.key, e.val], w, _, L, ?_, Ext.refl L w, s.rows, ?_, K⟩
  ·simp [execOp, e1, hrun]
  ·simp only [VS]
   exact ⟨[e.key, e.val], rfl, by simp [VSL, VS, h1, h2]⟩
def mgB (l : List (MK × Value)) (k : MK) : Bool := match l with
 | [] => false
 | (k', v) :: l => bif keqB k k' then (match v with | .bool b => b | _ => false) else mgB l k
def mgI (l : List (MK × Value)) (k : MK) : Int := match l with
 | [] => 0
 | (k', v) :: l => bif keqB k k' then (match v with | .int _ i => i | _ => 0) else mgI l k
def mokK (D : TypeDesc) (l : List (MK × Value)) : Prop := ∀ p ∈ l, p.1.ty D = true
def mokB (D : TypeDesc) (l : List (MK × Value)) : Prop := ∀ p ∈ l, p.1.ty D = true ∧ ∃ b, p.2 = .bool b
def mokI (D : TypeDesc) (ik : IntKind) (l : List (MK × Value)) : Prop := ∀ p ∈ l, p.1.ty D = true ∧ ∃ i, p.2 = .int ik i
theorem mgB_ok {D : TypeDesc} {k : MK} : ∀ {l : List (MK × Value)}, mokB D l → (mfind k l).getD (.bool false) = .bool (mgB l k)
 | [], _ => rfl
 | (k', v) :: l, h => by
  obtain ⟨b, hb⟩ := (h (k', v) (.head _)).2
  simp only at hb
  subst hb
  rw [mfind, mgB]
  cases keqB k k'
  ·exact mgB_ok fun p hp => h p (.tail _ hp)
  ·rfl
theorem mgI_ok {D : TypeDesc} {ik : IntKind} {k : MK} : ∀ {l : List (MK × Value)}, mokI D ik l → (mfind k l).getD (.int ik 0) = .int ik (mgI l k)
 | [], _ => rfl
 | (k', v) :: l, h => by
  obtain ⟨b, hb⟩ := (h (k', v) (.head _)).2
  simp only at hb
  subst hb
  rw [mfind, mgI]
  cases keqB k k'
  ·exact mgI_ok fun p hp => h p (.tail _ hp)
  ·rfl
end
end Go.Proofs.YtaglpckihegmoaaDoorAv
namespace Go.Proofs.YtaglpckihegmoaaDoorAv
open Go Go.RowKit
def encB (ns : List Int) : ByteArray := ns.foldl (fun r n => r ++ Utf8.encode n) ⟨#[]⟩
def encT (n : Nat) (g : Nat → Int) : ByteArray := encB ((List.range n).map g)
theorem run_forIn_runes {P : Program} {w : World} (f : Value → ByteArray → Sem (ForInStep ByteArray))
  (hf : ∀ (n : Int) (r : ByteArray), (f (.int .i32 n) r).run P w = .ok (.yield (r ++ Utf8.encode n)) w) :
  ∀ (ns : List Int) (s : ByteArray), (forIn (ns.map (Value.int .i32)) s f).run P w = .ok (ns.foldl (fun r n => r ++ Utf8.encode n) s) w := by
 intro ns
 induction ns with
 | nil => intro s; simp [Sem.run_pure]
 | cons n ns ih =>
  intro s
  simp only [List.map_cons, List.forIn_cons, Sem.run_bind, hf, Result.andThen, List.foldl_cons]
  exact ih _
theorem run_runesToString {P : Program} (w : World) (a : Addr) (len cap : Nat) (ns : List Int)
  (h : (loadCells a len).run P w = .ok (ns.map (Value.int .i32)).toArray w) :
  (Conv.runesToString (.slice (some a) len cap)).run P w = .ok (.string (encB ns)) w := by
 unfold Conv.runesToString
 simp only [Sem.run_bind, h, Result.andThen, List.forIn_toArray]
 rw [run_forIn_runes _ (by intro n r; simp [Sem.run_pure])]
 simp [Sem.run_pure, encB]
 rfl
theorem run_runesOf {P : Program} {w : World} {S T e : TypeId} {a : Option Addr} {n cap : Nat} {ns : List Int} (hS : P.underlying S = some (.slice e)) (hT : P.underlying T = some .string) (he : P.underlying e = some (.int .i32))
  (hn : n = ns.length) (hc : ns = [] ∨ ∃ ad, a = some ad ∧ ∀ i v, (ns.map fun b : Int => Value.int .i32 b)[i]? = some v → w.cell? (ad.add i) = some v) :
  (convert S T (.slice a n cap)).run P w = .ok (.string (encB ns)) w := by
 have h0 : (convert S T (.slice a n cap)).run P w = (Conv.runesToString (.slice a n cap)).run P w := by
  simp [convert, run_underlying hS, run_underlying hT, run_underlying he]
 rw [h0]
 rcases hc with rfl | ⟨ad, rfl, hc⟩
 ·subst hn
  cases a <;> simp [Conv.runesToString, loadCells, loadCellsFrom, encB] <;> rfl
 ·have hl := run_loadCells_list (P := P) w ad _ hc
  rw [List.length_map, ← hn] at hl
  exact run_runesToString (P := P) w ad n cap ns hl
section
variable {P : Program} {N : Nat} {ops : Array Oper} {Q : Exit → TM → GH → Prop} {d : Option Nat} {ty : TypeId} {pos : String} {af : Array Edge} {os : List Oper} {t : TM} {L : GH}
theorem JO.runesFz {S T e : TypeId} {x : Operand} {n : Nat} {ns : List Int} (hS : P.underlying S = some (.slice e)) (hT : P.underlying T = some .string) (he : P.underlying e = some (.int .i32))
  (hx : ev t x = .fz n (ns.map fun b : Int => .p (.int .i32 b))) (hn : n = ns.length) (hd : dok N d = true)
  (K : JO P N ops Q os (t.putO d (.p (.string (encB ns)))) L) : JO P N ops Q (⟨d, .convert S T x, ty, pos, af, none⟩ :: os) t L :=
 JO.still hd (fun a w s => by
  have e1 := s.ev x
  rw [hx] at e1
  simp only [VS] at e1
  obtain ⟨ad, cap, vs, e1, hle, hc, hv⟩ := e1
  refine ⟨.string (encB ns), ?_, by simp [VS]⟩
  have hv' := VSL.of_p (fun b : Int => Value.int .i32 b) ns vs hv
  have : (convert S T (a.eval x)).run P w = .ok (.string (encB ns)) w := by
   rw [e1]
   refine run_runesOf hS hT he hn ?_
   rcases hc with hc | ⟨ad', rfl, _, _, hc⟩
   ·left
    rw [hc] at hv'
    cases ns with
    | nil => rfl
    | cons b l => simp at hv'
   ·exact .inr ⟨ad', rfl, fun i v hi => hc i v (by rw [hv']; exact hi)⟩
  simp [execOp, this]) K
theorem JO.runeStr {S T : TypeId} {x : Operand} {k k' : IntKind} {i : Int} (hS : P.underlying S = some (.int k')) (hT : P.underlying T = some .string) (hx : ev t x = .p (.int k i)) (hd : dok N d = true)
  (K : JO P N ops Q os (t.putO d (.p (.string (Utf8.encode i)))) L) : JO P N ops Q (⟨d, .convert S T x, ty, pos, af, none⟩ :: os) t L :=
 JO.still hd (fun a w s => by
  have h1 := s.ev x
  rw [hx] at h1
  simp only [VS] at h1
  exact ⟨.string (Utf8.encode i), by simp [execOp, h1, convert, run_underlying hS, run_underlying hT, Conv.intToString], by simp [VS]⟩) K
theorem JO.litFzc {T e : TypeId} {xs : List Operand} {vs cs : List AV} {n sz : Nat} {ti : TypeInfo} {z : Value} (hT : P.underlying T = some (.slice e)) (hi : P.info? e = some ti) (hz : ti.zero = some z) (hs : ti.size = sz) (hn : n = xs.length)
  (hv : xs.map (ev t) = vs) (h1 : ∀ v ∈ vs, ones v.cells = true) (h2 : ∀ v ∈ vs, v.cells.length = sz) (hb : n * sz ≤ 16777216) (hc : vs.flatMap AV.cells = cs) (hd : dok N d = true)
  (K : JO P N ops Q os (t.putO d (.fzc n cs)) L) : JO P N ops Q (⟨d, .buildSlice T n (partsOf xs).toArray, ty, pos, af, none⟩ :: os) t L :=
 JO.value (dok_lt hd) fun a w s => by
  subst hc
  obtain ⟨hr, hv', hl⟩ := lit_run (d := d) (ty := ty) (pos := pos) (af := af) hT hi hz hs hn hv h1 h2 hb s
  have hp := Push.alloc w (.cells ((xs.map a.eval).flatMap (·.cells.toList)).toArray e)
  refine ⟨_, _, .fzc n (vs.flatMap AV.cells), L, hr, hp.ext L, hp.rows0 s.rows, ?_, K⟩
  simp only [VS]
  refine ⟨_, _, rfl, .inr ⟨_, rfl, fresh_of s.rows, ones_cells (all_ones h1) hv', fun i v hi => ?_⟩, VSL.ext (hp.ext L) _ _ hv'⟩
  rw [add_plain, Nat.zero_add]
  simp only [World.cell?, hp.new]
  simpa using hi
theorem run_cut {a : Act} {w : World} {T e : TypeId} {lo hi : Option Operand} {ti : TypeInfo} {ad : Option Addr} {n cap : Nat} {l h : Int} (s : Sim N t L a w) (hT : P.underlying T = some (.slice e)) (hI : P.info? e = some ti) (hcap : n ≤ cap)
  (hl : match lo with | some i => ∃ k, ev t i = .p (.int k l) | none => l = 0) (hh : match hi with | some i => ∃ k, ev t i = .p (.int k h) | none => h = n)
  (h0 : 0 ≤ l) (h1 : l ≤ h) (h2 : h ≤ n) :
  (Instr.sliceAt T (.slice ad n cap) (lo.map a.eval) (hi.map a.eval) none).run P w = .ok (.slice (if cap = l.toNat then ad else ad.map (·.add (l.toNat * ti.size))) (h.toNat - l.toNat) (cap - l.toNat)) w := by
 have hc : ((h.toNat : Nat) : Int) = h := by omega
 cases lo with
 | none =>
  simp only at hl
  subst hl
  cases hi with
  | none =>
   simp only at hh
   subst hh
   simp [Instr.sliceAt, run_underlying hT, Instr.slice, Instr.sliceBounds, sizeOf, typeInfo, hI]
  | some i =>
   obtain ⟨k, hh⟩ := hh
   have e2 := s.ev i
   rw [hh] at e2
   simp only [VS] at e2
   simp [e2, Instr.sliceAt, run_underlying hT, Instr.slice, Instr.sliceBounds, run_bound (show 0 ≤ h by omega) (show h ≤ cap by omega), sizeOf, typeInfo, hI]
 | some j =>
  obtain ⟨k', hl⟩ := hl
  have e3 := s.ev j
  rw [hl] at e3
  simp only [VS] at e3
  cases hi with
  | none =>
   simp only at hh
   subst hh
   simp [e3, Instr.sliceAt, run_underlying hT, Instr.slice, Instr.sliceBounds, run_bound h0 h1, sizeOf, typeInfo, hI]
  | some i =>
   obtain ⟨k, hh⟩ := hh
   have e2 := s.ev i
   rw [hh] at e2
   simp only [VS] at e2
   simp [e2, e3, Instr.sliceAt, run_underlying hT, Instr.slice, Instr.sliceBounds, run_bound (show 0 ≤ h by omega) (show h ≤ cap by omega), run_bound (y := h.toNat) h0 (by omega), sizeOf, typeInfo, hI]
theorem JO.cutSl {T e : TypeId} {x : Operand} {lo hi : Option Operand} {g sz off n : Nat} {l h : Int} {ti : TypeInfo} (hT : P.underlying T = some (.slice e)) (hI : P.info? e = some ti) (hs : ti.size = sz) (hx : ev t x = .sl g sz off n)
  (hl : match lo with | some i => ∃ k, ev t i = .p (.int k l) | none => l = 0) (hh : match hi with | some i => ∃ k, ev t i = .p (.int k h) | none => h = n) (hd : dok N d = true)
  (h0 : 0 ≤ l) (h1 : l ≤ h) (h2 : h ≤ n) (K : JO P N ops Q os (t.putO d (.sl g sz (off + l.toNat * sz) (h - l).toNat)) L) : JO P N ops Q (⟨d, .slice T x lo hi none, ty, pos, af, none⟩ :: os) t L :=
 JO.still hd (fun a w s => by
  have e1 := s.ev x
  rw [hx] at e1
  simp only [VS] at e1
  obtain ⟨ad, cap, e1, hcap, hca⟩ := e1
  have hrun := run_cut (ad := ad) s hT hI hcap hl hh h0 h1 h2
  refine ⟨_, by simp only [execOp, e1, Option.map_none, Sem.run_bind, hrun]; rfl, ?_⟩
  simp only [VS]
  refine ⟨_, cap - l.toNat, by rw [show (h - l).toNat = h.toNat - l.toNat by omega], by omega, ?_⟩
  by_cases hcl : cap = l.toNat
  ·left; omega
  ·right
   rcases hca with hca | ⟨rfl, c, e', fr, hb, hc⟩
   ·omega
   ·rw [if_neg hcl]
    refine ⟨by simp only [Option.map_some]; rw [add_plain, hs], c, e', fr, hb, ?_⟩
    have : cap * sz = l.toNat * sz + (cap - l.toNat) * sz := by rw [← Nat.add_mul]; congr 1; omega
    omega) K
theorem JO.cutNil {T e : TypeId} {x : Operand} {lo hi : Option Operand} {ti : TypeInfo} {l h : Int} (hT : P.underlying T = some (.slice e)) (hI : P.info? e = some ti) (hx : ev t x = .p (.slice none 0 0))
  (hl : match lo with | some i => ∃ k, ev t i = .p (.int k l) | none => l = 0) (hh : match hi with | some i => ∃ k, ev t i = .p (.int k h) | none => h = ((0 : Nat) : Int)) (hd : dok N d = true)
  (h0 : 0 ≤ l) (h1 : l ≤ h) (h2 : h ≤ ((0 : Nat) : Int)) (K : JO P N ops Q os (t.putO d (.p (.slice none 0 0))) L) : JO P N ops Q (⟨d, .slice T x lo hi none, ty, pos, af, none⟩ :: os) t L :=
 JO.still hd (fun a w s => by
  have e1 := s.ev x
  rw [hx] at e1
  simp only [VS] at e1
  have hrun := run_cut (ad := none) s hT hI (Nat.le_refl 0) hl hh h0 h1 h2
  refine ⟨_, by simp only [execOp, e1, Option.map_none, Sem.run_bind, hrun]; rfl, ?_⟩
  have e0 : h.toNat = 0 := by omega
  simp only [VS]
  simp [e0]) K
theorem JO.callF {f : FuncId} {fn : Func} {c : Code} {o : Operand} {xs : List Operand} {tys : Array TypeId} {R : AV → GH → Prop} (hf : P.funcs[f]? = some fn) (hb : fn.body = some c) (hr : (fn.name == "runtime.NumGoroutine") = false)
  (ho : ev t o = .p (.func (.func f) #[] #[]))
  (hd : dok N d = true) (h : JF P f (xs.map (ev t)) L R) (K : ∀ v L', R v L' → JO P N ops Q os (t.putO d v) L') :
  JO P N ops Q (⟨d, .call { callee := .value o, args := xs.toArray, argTypes := tys }, ty, pos, af, none⟩ :: os) t L := by
 refine JO.op rfl (fun _ => t) fun ro L0 w0 a w he hs => ?_
 have ex := hs.ev o
 rw [ho] at ex
 simp only [VS] at ex
 have hx : (execOp a.eval ⟨d, .call { callee := .value o, args := xs.toArray, argTypes := tys }, ty, pos, af, none⟩).run P w = .ok (.enter f (xs.map a.eval).toArray) w := by
  simp [execOp, resolve, ex, Deferred.ofValue, invoke, run_callFunc hf hb hr]
 unfold Oper.wp
 rw [hx]
 simp only [Oper.upon_enter]
 refine (h w (xs.map a.eval) hs.df.2 (evs hs xs) hs.rows).mono ?_
 rintro e w' ⟨v, x, L', rfl, hv, hrows, hx, r⟩
 show wpListIn _ _ _ _ _ _ _ _
 refine K v L' r ro L0 w0 _ w' (he.trans hx) ?_
 have s' := hs.ext hx hrows
 cases d with
 | none => exact s'
 | some i => exact s'.put i (dok_lt hd i rfl) hv
theorem JO.callC {f : FuncId} {fn : Func} {c : Code} {o : Operand} {g : Nat} {xs : List Operand} {tys : Array TypeId} {R : AV → GH → Prop} (hf : P.funcs[f]? = some fn) (hb : fn.body = some c) (hr : (fn.name == "runtime.NumGoroutine") = false)
  (ho : ev t o = .p (.func (.func f) #[] #[.pointer (some ⟨g, 0, none⟩)]))
  (hd : dok N d = true) (h : JF P f (xs.map (ev t) ++ [.ptr g 0]) L R) (K : ∀ v L', R v L' → JO P N ops Q os (t.putO d v) L') :
  JO P N ops Q (⟨d, .call { callee := .value o, args := xs.toArray, argTypes := tys }, ty, pos, af, none⟩ :: os) t L := by
 refine JO.op rfl (fun _ => t) fun ro L0 w0 a w he hs => ?_
 have ex := hs.ev o
 rw [ho] at ex
 simp only [VS] at ex
 have hx : (execOp a.eval ⟨d, .call { callee := .value o, args := xs.toArray, argTypes := tys }, ty, pos, af, none⟩).run P w = .ok (.enter f (xs.map a.eval ++ [Value.pointer (some ⟨g, 0, none⟩)]).toArray) w := by
  simp [execOp, resolve, ex, Deferred.ofValue, invoke, run_callFunc hf hb hr]
 unfold Oper.wp
 rw [hx]
 simp only [Oper.upon_enter]
 have hargs : ∀ (l : List AV) (vs : List Value), VSL L w l vs → VSL L w (l ++ [.ptr g 0]) (vs ++ [Value.pointer (some ⟨g, 0, none⟩)]) := by
  intro l
  induction l with
  | nil =>
   intro vs hv
   cases vs with
   | nil => simp [VSL, VS]
   | cons _ _ => simp [VSL] at hv
  | cons a l ih =>
   intro vs hv
   cases vs with
   | nil => simp [VSL] at hv
   | cons v vs =>
    simp only [VSL] at hv
    simp only [List.cons_append, VSL]
    exact ⟨hv.1, ih vs hv.2⟩
 refine (h w (xs.map a.eval ++ [Value.pointer (some ⟨g, 0, none⟩)]) hs.df.2 (hargs _ _ (evs hs xs)) hs.rows).mono ?_
 rintro e w' ⟨v, x, L', rfl, hv, hrows, hx, r⟩
 show wpListIn _ _ _ _ _ _ _ _
 refine K v L' r ro L0 w0 _ w' (he.trans hx) ?_
 have s' := hs.ext hx hrows
 cases d with
 | none => exact s'
 | some i => exact s'.put i (dok_lt hd i rfl) hv
theorem JO.mkC {f : FuncId} {o : Operand} {g : Nat} (ho : ev t o = .ptr g 0) (hd : dok N d = true) (K : JO P N ops Q os (t.putO d (.p (.func (.func f) #[] #[.pointer (some ⟨g, 0, none⟩)]))) L) :
  JO P N ops Q (⟨d, .makeFunc (.func f) #[] #[o], ty, pos, af, none⟩ :: os) t L := by
 refine JO.still hd (fun a w hs => ?_) K
 have ex := hs.ev o
 rw [ho] at ex
 simp only [VS] at ex
 exact ⟨_, by simp [execOp, Instr.makeFunc, ex]; rfl, by simp [VS]⟩
end
end Go.Proofs.YtaglpckihegmoaaDoorAv
