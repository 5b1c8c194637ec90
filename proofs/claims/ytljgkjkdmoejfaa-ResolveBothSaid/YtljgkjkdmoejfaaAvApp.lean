/-
  ABSTRACT VALUES over the model (own framework, part 4): bytes and strings, append, literals, slices cut.
-/
import Derived.Test.YtljgkjkdmoejfaaAvMem
set_option linter.unusedVariables false
set_option linter.unusedSimpArgs false
namespace Go.Proofs.YtljgkjkdmoejfaaAv
open Go Go.RowKit

/-- A byte's cell. -/
def byteAV (b : UInt8) : AV := .p (.int .u8 b.toNat)
/-- A string's bytes as cells. -/
def bytesAV (s : ByteArray) : List AV := s.data.toList.map byteAV

theorem VSL.map_p {L : GH} {w : World} {α : Type} (f : α → Value) : ∀ xs : List α, VSL L w (xs.map fun x => AV.p (f x)) (xs.map f)
  | [] => by simp [VSL]
  | x :: xs => by simp only [List.map_cons, VSL, VS]; exact ⟨trivial, VSL.map_p f xs⟩

theorem VSL.of_p {L : GH} {w : World} {α : Type} (f : α → Value) : ∀ (xs : List α) (vs : List Value), VSL L w (xs.map fun x => AV.p (f x)) vs → vs = xs.map f
  | [], [], _ => rfl
  | x :: xs, v :: vs, h => by
    simp only [List.map_cons, VSL, VS] at h
    rw [List.map_cons, ← VSL.of_p f xs vs h.2, h.1]
  | [], _ :: _, h => by simp [VSL] at h
  | _ :: _, [], h => by simp [VSL] at h

theorem Push.bytes (w : World) (e : TypeId) (s : ByteArray) : Push w (Lib.bytesWorld w e s) (.cells (Lib.bytesCells w e s) e ((Lib.bytesCells w e s).size, (Lib.bytesCells w e s).size + 1)) := by
  refine ⟨?_, rfl, rfl, rfl⟩
  apply Array.ext'
  apply List.ext_getElem?
  intro i
  rw [Array.getElem?_toList, Array.getElem?_toList]
  by_cases hi : i < w.heap.size
  · rw [Lib.bytesWorld_at_old w e s i hi, Array.getElem?_push, if_neg (Nat.ne_of_lt hi)]
  · by_cases h2 : i = w.heap.size
    · subst h2
      rw [Lib.bytesWorld_at_new]
      simp
    · rw [Array.getElem?_eq_none (by rw [Lib.bytesWorld_size]; omega), Array.getElem?_eq_none (by simp; omega)]

section
variable {P : Program} {N : Nat} {ops : Array Oper} {Q : Exit → TM → GH → Prop} {d : Option Nat} {ty : TypeId} {pos : String} {af : Array Edge} {os : List Oper} {t : TM} {L : GH}

/-- `[]byte(s)`. -/
theorem JO.toBytes {S T e : TypeId} {x : Operand} {s : ByteArray} (hS : P.underlying S = some .string) (hT : P.underlying T = some (.slice e)) (he : P.underlying e = some (.int .u8)) (hx : ev t x = .p (.string s)) (hd : dok N d = true)
    (K : ∀ g, L g = none → JO P N ops Q os (t.putO d (.sl g 1 0 s.size)) (upd L g ⟨e, false, bytesAV s⟩)) : JO P N ops Q (⟨d, .convert S T x, ty, pos, af, none⟩ :: os) t L :=
  JO.new (fun g => .sl g 1 0 s.size) hd (fun a w sm => by
    have e1 := sm.ev x
    rw [hx] at e1
    simp only [VS] at e1
    have hp := Push.bytes w e s
    have hc : Lib.bytesCells w e s = ((s.data.toList.map fun b : UInt8 => Value.int .u8 b.toNat) ++ List.replicate (grownCap w s.size 0 e - s.size) (Value.int .u8 0)).toArray := by
      unfold Lib.bytesCells
      apply Array.ext'
      simp
    have hz : (Lib.bytesCells w e s).size = grownCap w s.size 0 e := by
      have := grownCap_ge w s.size 0 e
      simp [Lib.bytesCells]
      omega
    rw [hc] at hp hz
    refine ⟨_, _, _, _, .slice (some ⟨w.heap.size, 0, none⟩) s.size (grownCap w s.size 0 e), hp, fun h => by simp at h, fun o ho => ?_, ?_, ?_, ?_, fun L' => ?_⟩
    · simp only [List.size_toArray]
      omega
    · simp only [execOp, e1, Sem.run_bind, Lib.run_convert_string_bytes w S T e s hS hT he]
      rfl
    · exact VSL.map_p (fun b : UInt8 => Value.int .u8 b.toNat) s.data.toList
    · intro v hv
      obtain ⟨b, _, rfl⟩ := List.mem_map.1 hv
      rfl
    · simp only [VS]
      exact ⟨_, _, rfl, grownCap_ge w s.size 0 e, .inr ⟨rfl, _, e, _, hp.new, by omega⟩⟩) K

/-- The string of bytes. -/
def ofBytes (bs : List UInt8) : ByteArray := ⟨bs.toArray⟩
/-- So many bytes, by their places. -/
def txtOf (n : Nat) (f : Nat → UInt8) : ByteArray := ofBytes ((List.range n).map f)

theorem foldl_push (bs : List UInt8) (r : ByteArray) : (bs.map fun b : UInt8 => (b.toNat : Int)).foldl (fun r n => r.push (UInt8.ofNat n.toNat)) r = ⟨r.data ++ bs.toArray⟩ := by
  induction bs generalizing r with
  | nil => simp
  | cons b bs ih =>
    simp only [List.map_cons, List.foldl_cons, ih]
    congr 1
    simp [ByteArray.push]

theorem run_strOf {P : Program} {w : World} {S T e : TypeId} {a : Option Addr} {n cap : Nat} {bs : List UInt8} (hS : P.underlying S = some (.slice e)) (hT : P.underlying T = some .string) (he : P.underlying e = some (.int .u8))
    (hn : n = bs.length) (hc : bs = [] ∨ ∃ ad, a = some ad ∧ ∀ i v, (bs.map fun b : UInt8 => Value.int .u8 b.toNat)[i]? = some v → w.cell? (ad.add i) = some v) :
    (convert S T (.slice a n cap)).run P w = .ok (.string (ofBytes bs)) w := by
  have h0 : (convert S T (.slice a n cap)).run P w = (Conv.bytesToString (.slice a n cap)).run P w := by
    simp [convert, run_underlying hS, run_underlying hT, run_underlying he]
  rw [h0]
  rcases hc with rfl | ⟨ad, rfl, hc⟩
  · subst hn
    cases a <;> simp [Conv.bytesToString, loadCells, loadCellsFrom, ofBytes] <;> rfl
  · have hl := run_loadCells_list (P := P) w ad _ hc
    rw [List.length_map, ← hn] at hl
    have := run_bytesToString (P := P) w ad n cap (bs.map fun b : UInt8 => (b.toNat : Int)) (by rw [hl, List.map_map]; rfl)
    rw [this, foldl_push]
    simp [ofBytes, ByteArray.empty, ByteArray.emptyWithCapacity]
    try rfl

/-- `string(b)`, of a slice of one's own. -/
theorem JO.strOwn {S T e : TypeId} {x : Operand} {g n : Nat} {r : Row} {bs : List UInt8} (hS : P.underlying S = some (.slice e)) (hT : P.underlying T = some .string) (he : P.underlying e = some (.int .u8))
    (hx : ev t x = .sl g 1 0 n) (hr : L g = some r) (hb : r.cs = bs.map byteAV) (hn : n = bs.length) (hd : dok N d = true)
    (K : JO P N ops Q os (t.putO d (.p (.string (ofBytes bs)))) L) : JO P N ops Q (⟨d, .convert S T x, ty, pos, af, none⟩ :: os) t L :=
  JO.still hd (fun a w s => by
    have e1 := s.ev x
    rw [hx] at e1
    simp only [VS] at e1
    obtain ⟨ad, cap, e1, hle, hc⟩ := e1
    refine ⟨.string (ofBytes bs), ?_, by simp [VS]⟩
    obtain ⟨c, fr, vs, hh, _, _, hl, hvs, hv, _⟩ := s.rows g r hr
    rw [hb] at hv hvs hl
    have hv' := VSL.of_p (fun b : UInt8 => Value.int .u8 b.toNat) bs vs hv
    have : (convert S T (a.eval x)).run P w = .ok (.string (ofBytes bs)) w := by
      rw [e1]
      refine run_strOf hS hT he hn ?_
      rcases hc with hc | ⟨rfl, _⟩
      · left
        have : bs.length = 0 := by omega
        exact List.length_eq_zero_iff.1 this
      · refine .inr ⟨_, rfl, fun i v hi => ?_⟩
        rw [add_plain]
        have hlt : i < bs.length := by
          have := (List.getElem?_eq_some_iff.1 hi).1
          simpa using this
        rw [← hv', hvs, List.getElem?_take, if_pos (by simpa using hlt)] at hi
        simp only [World.cell?, hh]
        simpa using hi
    simp only [execOp, Sem.run_bind, this]
    rfl) K
end

/-- A slice that one makes by append: nil, or in a block of one's own. -/
def hv (og : Option Nat) (sz n : Nat) : AV :=
  match og with
  | none => .p (.slice none 0 0)
  | some g => .sl g sz 0 n
def updo (L : GH) (og : Option Nat) (r : Row) : GH :=
  match og with
  | none => L
  | some g => upd L g r
/-- It is new. -/
def Fre (L : GH) (og : Option Nat) : Prop := ∀ g, og = some g → L g = none

theorem slen_hv (og : Option Nat) (sz n : Nat) (h : og = none → n = 0) : slen (hv og sz n) = some n := by
  cases og with
  | none => simp [hv, slen, h rfl]
  | some g => simp [hv, slen]

/-- What a slice that is only read has for cells. -/
def srcOf (L : GH) : AV → Option (Nat × List AV)
  | .fz n cs => some (n, cs)
  | .p (.slice none n _) => some (n, [])
  | .sl g sz off n => (L g).map fun r => (n, (r.cs.drop off).take (n * sz))
  | _ => none

theorem src_run {P : Program} {L : GH} {w : World} (hr : ∀ g r, L g = some r → RowR L w g r) {v : AV} {n : Nat} {cs : List AV} {x : Value} (h : srcOf L v = some (n, cs)) (hx : VS L w v x) :
    ∃ a c vs, x = .slice a n c ∧ VSL L w cs vs ∧ (∀ v ∈ vs, v.oneCell' = true) ∧ (vs = [] ∨ ∃ ad, a = some ad ∧ ∀ i v, vs[i]? = some v → w.cell? (ad.add i) = some v) := by
  unfold srcOf at h
  split at h
  · simp only [Option.some.injEq, Prod.mk.injEq] at h
    obtain ⟨rfl, rfl⟩ := h
    simp only [VS] at hx
    obtain ⟨a, c, vs, rfl, _, hc, hv⟩ := hx
    rcases hc with h | ⟨ad, ha, _, h1, hc⟩
    · subst h
      exact ⟨a, c, [], rfl, hv, by simp, .inl rfl⟩
    · exact ⟨a, c, vs, rfl, hv, h1, .inr ⟨ad, ha, hc⟩⟩
  · simp only [Option.some.injEq, Prod.mk.injEq] at h
    obtain ⟨rfl, rfl⟩ := h
    simp only [VS] at hx
    exact ⟨_, _, [], hx, by simp [VSL], by simp, .inl rfl⟩
  · rename_i g sz off n'
    cases hg : L g with
    | none => simp [hg] at h
    | some r =>
      simp only [hg, Option.map_some, Option.some.injEq, Prod.mk.injEq] at h
      obtain ⟨rfl, rfl⟩ := h
      simp only [VS] at hx
      obtain ⟨a, cap, rfl, hn, hc⟩ := hx
      obtain ⟨c, fr, vs, hh, _, _, hl, hvs, hv, h1⟩ := hr g r hg
      have hv2 := VSL.take (n' * sz) (VSL.drop off hv)
      refine ⟨a, cap, (vs.drop off).take (n' * sz), rfl, hv2, fun v hv => h1 v (List.mem_of_mem_drop (List.mem_of_mem_take hv)), ?_⟩
      rcases hc with hc | ⟨rfl, _⟩
      · left
        have : n' = 0 := by omega
        simp [this]
      · refine .inr ⟨_, rfl, fun i v hi => ?_⟩
        rw [add_plain]
        rw [List.getElem?_take] at hi
        split at hi
        · rw [List.getElem?_drop, hvs, List.getElem?_take] at hi
          split at hi
          · simp only [World.cell?, hh]
            simpa using hi
          · cases hi
        · cases hi
  · cases h


theorem updo_none {L : GH} {og : Option Nat} {r : Row} {b : Nat} (h : updo L og r b = none) : (∀ g, og = some g → b ≠ g) ∧ L b = none := by
  cases og with
  | none => exact ⟨fun g hg => (by cases hg), h⟩
  | some g =>
    have h' := upd_none (show upd L g r b = none from h)
    exact ⟨fun g' hg => by cases hg; exact h'.1, h'.2⟩

/-- Blocks less one that is told no more, and one more: a world in which this one is new. -/
theorem Ext.moved {L0 : GH} {og : Option Nat} {r : Row} {w w' : World} {g : Nat} (s : Row) (h : Ext (updo L0 og r) w (updo L0 og r) w') (hg : w.heap.size ≤ g ∨ og = some g) : Ext (updo L0 og r) w (upd L0 g s) w' :=
  ⟨h.os, h.tape, h.output, h.size, h.keep, fun b hb hl => by
    obtain ⟨h1, h2⟩ := updo_none hl
    rw [upd_ne]
    · exact h2
    · rintro rfl
      rcases hg with hg | hg
      · omega
      · exact h1 _ hg rfl, h.shape⟩

section
variable {P : Program} {N : Nat} {ops : Array Oper} {Q : Exit → TM → GH → Prop} {d : Option Nat} {ty : TypeId} {pos : String} {af : Array Edge} {os : List Oper} {t : TM} {L0 : GH}

theorem run_src {P : Program} {w : World} {ya : Option Addr} {m yc sz : Nat} {us : List Value} (hl : us.length = m * sz) (h : us = [] ∨ ∃ ad, ya = some ad ∧ ∀ i v, us[i]? = some v → w.cell? (ad.add i) = some v) :
    (Builtin.firstCells sz m (.slice ya m yc)).run P w = .ok us.toArray w := by
  cases ya with
  | none =>
    rcases h with rfl | ⟨ad, h, _⟩
    · simp [Builtin.firstCells]
    · cases h
  | some b =>
    refine run_firstCells_some w sz m b m yc us hl ?_
    rcases h with rfl | ⟨ad, h, hc⟩
    · intro j v hv; simp at hv
    · obtain rfl := Option.some.inj h
      exact hc

/-- append within the room that is there. -/
theorem run_append_in {P : Program} {w w' : World} {T ty e : TypeId} {ti : TypeInfo} (hT : P.underlying T = some (.slice e)) (hi : P.info? e = some ti) {a ya : Option Addr} {n cap m yc : Nat} {us : List Value}
    (hu : (Builtin.firstCells ti.size m (.slice ya m yc)).run P w = .ok us.toArray w) (hroom : n + m ≤ cap) (hst : ∀ b, a = some b → (storeCells (b.add (n * ti.size)) us).run P w = .ok () w') (hst0 : a = none → w' = w) :
    (Builtin.append_ #[T, T] ty #[.slice a n cap, .slice ya m yc]).run P w = .ok (.slice a (n + m) cap) w' := by
  cases a with
  | none =>
    obtain rfl := hst0 rfl
    simp [Builtin.append_, run_underlying hT, sizeOf, typeInfo, hi, Builtin.lenOf, hroom, hu]
  | some a =>
    simp [Builtin.append_, run_underlying hT, sizeOf, typeInfo, hi, Builtin.lenOf, hroom, hu, hst a rfl]

/-- append beyond it. -/
theorem run_append_out {P : Program} {w : World} {T ty e : TypeId} {ti : TypeInfo} {z : Value} (hT : P.underlying T = some (.slice e)) (hi : P.info? e = some ti) (hz : ti.zero = some z) {a ya : Option Addr} {n cap m yc : Nat} {vs us : List Value}
    (hv : (Builtin.firstCells ti.size n (.slice a n cap)).run P w.drew = .ok vs.toArray w.drew) (hu : (Builtin.firstCells ti.size m (.slice ya m yc)).run P w.drew = .ok us.toArray w.drew)
    (hg : cap < n + m) (h63 : ((n + m : Nat) : Int) ≤ 9223372036854775807) (hfit : Builtin.nextslicecap (n + m) cap * ti.bytes ≤ 281474976710656) :
    (Builtin.append_ #[T, T] ty #[.slice a n cap, .slice ya m yc]).run P w =
      .ok (.slice (some ⟨w.heap.size, 0, none⟩) (n + m) (grownCap w (n + m) cap e)) (w.drew.alloc (.cells (vs ++ us ++ (Builtin.zeroCells z.cells (grownCap w (n + m) cap e - (n + m))).toList).toArray e)) := by
  have hn : ¬ (n + m ≤ cap) := by omega
  have h63' : ¬ (9223372036854775807 < ((n : Int) + (m : Int))) := by omega
  have h48' : ¬ (281474976710656 < Builtin.nextslicecap (n + m) cap * ti.bytes) := by omega
  simp [Builtin.append_, run_underlying hT, sizeOf, typeInfo, zeroValue, hi, hz, Builtin.lenOf, hn, h63', h48', Question.forced, hv, hu, newRow, grownCap]
  congr 2
  apply Array.ext'
  simp [List.append_assoc]

/-- The cells that a slice made by append has, in the world. -/
theorem hv_cells {L : GH} {w : World} (hr : ∀ g r, L g = some r → RowR L w g r) {og : Option Nat} {e : TypeId} {cs : List AV} {sz n : Nat} (hrow : ∀ g, og = some g → L g = some ⟨e, true, cs⟩) (hnil : og = none → cs = [] ∧ n = 0) (hl : cs.length = n * sz)
    {x : Value} (hx : VS L w (hv og sz n) x) : (x = .slice none 0 0 ∧ cs = [] ∧ n = 0 ∧ og = none) ∨ ∃ g a cap c vs, og = some g ∧ x = .slice a n cap ∧ n ≤ cap ∧ w.heap[g]? = some (.cells c e (0, 0)) ∧ cs.length ≤ c.size ∧ vs = c.toList.take cs.length ∧
      VSL L w cs vs ∧ (∀ v ∈ vs, v.oneCell' = true) ∧ (cap = 0 ∨ (a = some ⟨g, 0, none⟩ ∧ cap * sz ≤ c.size)) := by
  cases og with
  | none =>
    left
    simp only [hv, VS] at hx
    exact ⟨hx, (hnil rfl).1, (hnil rfl).2, rfl⟩
  | some g =>
    right
    simp only [hv, VS] at hx
    obtain ⟨a, cap, rfl, hn, hc⟩ := hx
    obtain ⟨c, fr, vs, hh, hap, _, hle, hvs, hv, h1⟩ := hr g _ (hrow g rfl)
    have hf := hap rfl
    subst hf
    refine ⟨g, a, cap, c, vs, rfl, rfl, hn, hh, hle, hvs, hv, h1, ?_⟩
    rcases hc with hc | ⟨ha, c', e', fr', hh', hs⟩
    · exact .inl hc
    · rw [hh] at hh'
      injection hh' with hh'
      injection hh' with q1 q2 q3
      subst q1
      exact .inr ⟨ha, by omega⟩

theorem VSL.split {L : GH} {w : World} {cs ds : List AV} {vs us : List Value} (h : VSL L w cs vs) (k : VSL L w ds us) : VSL L w (cs ++ ds) (vs ++ us) := h.append k

/-- `append(x, y...)`, x of one's own making or nil. -/
theorem JO.append' {T e : TypeId} {x y : Operand} {og : Option Nat} {cs ys : List AV} {sz n m : Nat} {ti : TypeInfo} {z : Value} (hT : P.underlying T = some (.slice e)) (hi : P.info? e = some ti) (hz : ti.zero = some z) (hs : ti.size = sz) (hzz : z.cells.size = sz)
    (hF : Fre L0 og) (hx : ev t x = hv og sz n) (hnil : og = none → cs = [] ∧ n = 0) (hl : cs.length = n * sz) (hy : srcOf (updo L0 og ⟨e, true, cs⟩) (ev t y) = some (m, ys)) (hm : ys.length = m * sz)
    (hb : (n + m) * ti.bytes ≤ 140737488355328) (hb2 : n + m ≤ 140737488355328) (hsz : 0 < sz) (hd : dok N d = true)
    (K : ∀ og', Fre L0 og' → (og' = none → cs ++ ys = [] ∧ n + m = 0) → JO P N ops Q os (t.putO d (hv og' sz (n + m))) (updo L0 og' ⟨e, true, cs ++ ys⟩)) :
    JO P N ops Q (⟨d, .call { callee := .builtin .append, args := #[x, y], argTypes := #[T, T] }, ty, pos, af, none⟩ :: os) t (updo L0 og ⟨e, true, cs⟩) :=
  JO.value (dok_lt hd) fun a w s => by
    have hrow : ∀ g, og = some g → updo L0 og ⟨e, true, cs⟩ g = some ⟨e, true, cs⟩ := by rintro g rfl; exact upd_same _ _ _
    have ex := s.ev x
    rw [hx] at ex
    obtain ⟨ya, yc, us, ey, hus, h1us, hcy⟩ := src_run (P := P) s.rows hy (s.ev y)
    have hrun : ∀ v w', (Builtin.append_ #[T, T] ty #[a.eval x, a.eval y]).run P w = .ok v w' → (execOp a.eval ⟨d, .call { callee := .builtin .append, args := #[x, y], argTypes := #[T, T] }, ty, pos, af, none⟩).run P w = .ok (.value v) w' := by
      intro v w' hv
      simp only [execOp, resolve, invoke, builtin, List.map_toArray, Sem.run_bind, Sem.run_pure, Result.andThen_ok] at hv ⊢
      simp only [List.map_cons, List.map_nil] at hv ⊢
      rw [hv]
      rfl
    have hul := hus.length
    -- the two ways that make a new block
    have grown : ∀ (vs : List Value) (rest : Array Value) (cap : Nat) (w2 : World), VSL (updo L0 og ⟨e, true, cs⟩) w cs vs → (∀ v ∈ vs, v.oneCell' = true) → n + m ≤ cap → (vs ++ us ++ rest.toList).length = cap * sz →
        w2 = w.drew.alloc (.cells (vs ++ us ++ rest.toList).toArray e) → (Builtin.append_ #[T, T] ty #[a.eval x, a.eval y]).run P w = .ok (.slice (some ⟨w.heap.size, 0, none⟩) (n + m) cap) w2 →
        ∃ x' w' v L', (execOp a.eval ⟨d, .call { callee := .builtin .append, args := #[x, y], argTypes := #[T, T] }, ty, pos, af, none⟩).run P w = .ok (.value x') w' ∧ Ext (updo L0 og ⟨e, true, cs⟩) w L' w' ∧ (∀ g r, L' g = some r → RowR L' w' g r) ∧ VS L' w' v x' ∧
          JO P N ops Q os (t.putO d v) L' := by
      intro vs rest cap w2 hvs h1vs hcap hlen hw2 hr
      subst hw2
      have hp : Push w (w.drew.alloc (.cells (vs ++ us ++ rest.toList).toArray e)) (.cells ((vs ++ us) ++ rest.toList).toArray e (0, 0)) := Push.drew w _
      have hfr0 : updo L0 og ⟨e, true, cs⟩ w.heap.size = none := fresh_of s.rows
      have hfr1 : L0 w.heap.size = none := (updo_none hfr0).2
      have hx1 : Ext (updo L0 og ⟨e, true, cs⟩) w (upd L0 w.heap.size ⟨e, true, cs ++ ys⟩) (w.drew.alloc (.cells (vs ++ us ++ rest.toList).toArray e)) := Ext.moved _ (hp.ext _) (.inl (Nat.le_refl _))
      refine ⟨_, _, hv (some w.heap.size) sz (n + m), updo L0 (some w.heap.size) ⟨e, true, cs ++ ys⟩, hrun _ _ hr, hx1, ?_, ?_, K (some w.heap.size) (by rintro g hg; cases hg; exact hfr1) (fun h => by cases h)⟩
      · have hall := hp.rows s.rows true (cs ++ ys) (fun _ => rfl) (fun o _ => by simp) (hvs.append hus) (by intro v hv; rcases List.mem_append.1 hv with h | h; exact h1vs v h; exact h1us v h)
        intro g r hg
        by_cases hgs : g = w.heap.size
        · subst hgs
          have hg' : upd L0 w.heap.size ⟨e, true, cs ++ ys⟩ w.heap.size = some r := hg
          rw [upd_same] at hg'
          obtain rfl := Option.some.inj hg'
          exact (hall w.heap.size ⟨e, true, cs ++ ys⟩ (upd_same _ _ _)).ext (Ext.drop _ fun b hb => by
            obtain ⟨q1, q2⟩ := upd_none hb
            show upd L0 _ _ b = none
            rw [upd_ne _ _ _ _ q1]
            exact (updo_none q2).2) rfl
        · have hg' : upd L0 w.heap.size ⟨e, true, cs ++ ys⟩ g = some r := hg
          rw [upd_ne _ _ _ _ hgs] at hg'
          have hgo : updo L0 og ⟨e, true, cs⟩ g = some r := by
            cases og with
            | none => exact hg'
            | some g0 =>
              show upd L0 g0 _ g = some r
              rw [upd_ne]
              · exact hg'
              · rintro rfl
                rw [hF _ rfl] at hg'
                cases hg'
          have k := s.rows g r hgo
          exact k.ext hx1 (hp.old k.lt)
      · simp only [hv, VS]
        refine ⟨_, _, rfl, hcap, .inr ⟨rfl, _, e, _, hp.new, ?_⟩⟩
        simp only [List.size_toArray]
        omega
    have hzl : ∀ k, (Builtin.zeroCells z.cells k).toList.length = k * sz := fun k => by simp [Builtin.zeroCells, hzz]
    have h63 : ((n + m : Nat) : Int) ≤ 9223372036854775807 := by omega
    have hus' : us.length = m * ti.size := by rw [hs]; omega
    rcases hv_cells s.rows hrow hnil hl ex with ⟨ex', hcs, hn0, hog⟩ | ⟨g, xa, cap, c, vs, hog, ex', hncap, hh, hle, hvs, hvv, h1v, hcap⟩
    · -- nil
      subst hcs
      subst hn0
      subst hog
      by_cases hm0 : m = 0
      · subst hm0
        have hus0 : us = [] := List.length_eq_zero_iff.1 (by omega)
        subst hus0
        have hys0 : ys = [] := List.length_eq_zero_iff.1 (by omega)
        subst hys0
        have hr := run_append_in (ty := ty) (w := w) (w' := w) (a := none) (n := 0) (cap := 0) hT hi (run_src (P := P) (w := w) (ya := ya) (yc := yc) hus' (.inl rfl)) (Nat.le_refl _) (fun b hb => by cases hb) (fun _ => rfl)
        refine ⟨_, w, hv none sz (0 + 0), updo L0 none ⟨e, true, [] ++ []⟩, hrun _ _ (by rw [ex', ey]; exact hr), Ext.refl _ _, s.rows, by simp [hv, VS], K none hF (fun _ => ⟨rfl, rfl⟩)⟩
      · have hr := run_append_out (ty := ty) (w := w) (a := none) (n := 0) (cap := 0) (vs := []) hT hi hz (run_src (P := P) (sz := ti.size) (by simp) (.inl rfl)) (run_src (P := P) (w := w.drew) (ya := ya) (yc := yc) hus' hcy) (by omega) h63
          (by rw [nextslicecap_zero (by omega)]; omega)
        refine grown [] _ _ _ (by simp [VSL]) (by simp) (grownCap_ge _ _ _ _) ?_ rfl (by rw [ex', ey]; exact hr)
        have hge := grownCap_ge w (0 + m) 0 e
        rw [List.nil_append, List.length_append, hzl, ← hul, hm, ← Nat.add_mul]
        congr 1
        omega
    · subst hog
      have hvl := hvv.length
      have hvs' : vs.length = n * ti.size := by rw [hs]; omega
      have hold : vs = [] ∨ ∃ ad, xa = some ad ∧ ∀ i v, vs[i]? = some v → w.cell? (ad.add i) = some v := by
        rcases hcap with hcap | ⟨rfl, _⟩
        · left
          have : n = 0 := by omega
          exact List.length_eq_zero_iff.1 (by rw [hvs', this]; simp)
        · refine .inr ⟨_, rfl, fun i v hi => ?_⟩
          rw [add_plain]
          have hlt := (List.getElem?_eq_some_iff.1 hi).1
          rw [hvs, List.getElem?_take, if_pos (by omega)] at hi
          simp only [World.cell?, hh]
          simpa using hi
      by_cases hroom : n + m ≤ cap
      · -- within the room
        rcases hcap with hcap | ⟨rfl, hcz⟩
        · -- nothing at all
          have hn0 : n = 0 := by omega
          have hm0 : m = 0 := by omega
          have hus0 : us = [] := List.length_eq_zero_iff.1 (by rw [hus', hm0]; simp)
          have hys0 : ys = [] := List.length_eq_zero_iff.1 (by rw [hm, hm0]; simp)
          subst hus0
          subst hys0
          have hr := run_append_in (ty := ty) (w := w) (w' := w) (a := xa) (n := n) (cap := cap) hT hi (run_src (P := P) (w := w) (ya := ya) (yc := yc) hus' (.inl rfl)) hroom (fun b _ => by simp [storeCells]) (fun _ => rfl)
          refine ⟨_, w, hv (some g) sz (n + m), updo L0 (some g) ⟨e, true, cs ++ []⟩, hrun _ _ (by rw [ex', ey]; exact hr), by rw [List.append_nil]; exact Ext.refl _ _, by rw [List.append_nil]; exact s.rows, ?_, K (some g) hF (fun h => by cases h)⟩
          simp only [hv, VS]
          exact ⟨_, _, rfl, hroom, .inl hcap⟩
        · have hle2 : (n + m) * sz ≤ cap * sz := Nat.mul_le_mul_right _ hroom
          rw [Nat.add_mul] at hle2
          have hst := run_storeCells_in (P := P) g (n * ti.size) e (0, 0) us 0 c w hh (fun j _ => by simp) (by rw [hus', hs]; omega) h1us
          simp only [Nat.add_zero] at hst
          have hr := run_append_in (ty := ty) (w := w) (a := some ⟨g, 0, none⟩) (n := n) (cap := cap) hT hi (run_src (P := P) (w := w) (ya := ya) (yc := yc) hus' hcy) hroom (fun b hb => by cases hb; rw [add_plain, Nat.zero_add]; exact hst) (fun h => by cases h)
          have hnew := setRow_heap w g c (c.toList.take (n * ti.size) ++ us ++ c.toList.drop (n * ti.size + us.length)).toArray e (0, 0) hh
          have hns : (c.toList.take (n * ti.size) ++ us ++ c.toList.drop (n * ti.size + us.length)).toArray.size = c.size := by
            simp only [List.size_toArray, List.length_append, List.length_take, List.length_drop, Array.length_toList]
            rw [hus', hs]
            omega
          have hx0 : Ext (updo L0 (some g) ⟨e, true, cs⟩) w (updo L0 (some g) ⟨e, true, cs⟩) (w.setRow g (c.toList.take (n * ti.size) ++ us ++ c.toList.drop (n * ti.size + us.length)).toArray) := by
            refine ⟨rfl, rfl, rfl, by simp, fun b hb hl => ?_, fun b hb hl => hl, fun b c' e' fr' hc' => ?_⟩
            · exact setRow_other w g b _ ((updo_none hl).1 g rfl)
            · by_cases hb : b = g
              · subst hb
                rw [hh] at hc'
                injection hc' with hc'
                injection hc' with q1 q2 q3
                subst q1
                exact ⟨_, _, _, hnew, hns⟩
              · exact ⟨c', e', fr', by rw [setRow_other w g b _ hb]; exact hc', rfl⟩
          have hx1 : Ext (updo L0 (some g) ⟨e, true, cs⟩) w (upd L0 g ⟨e, true, cs ++ ys⟩) (w.setRow g (c.toList.take (n * ti.size) ++ us ++ c.toList.drop (n * ti.size + us.length)).toArray) := Ext.moved _ hx0 (.inr rfl)
          refine ⟨_, _, hv (some g) sz (n + m), updo L0 (some g) ⟨e, true, cs ++ ys⟩, hrun _ _ (by rw [ex', ey]; exact hr), hx1, ?_, ?_, K (some g) hF (fun h => by cases h)⟩
          · intro g' r hg'
            have hg2 : upd L0 g ⟨e, true, cs ++ ys⟩ g' = some r := hg'
            by_cases hgg : g' = g
            · subst hgg
              rw [upd_same] at hg2
              obtain rfl := Option.some.inj hg2
              refine ⟨_, (0, 0), vs ++ us, hnew, fun _ => rfl, fun o _ => by simp, ?_, ?_, VSL.ext hx1 _ _ (hvv.append hus), by intro v hv; rcases List.mem_append.1 hv with h | h; exact h1v v h; exact h1us v h⟩
              · rw [hns, List.length_append, hul]
                rw [hus', hs]
                omega
              · show vs ++ us = List.take (cs ++ ys).length _
                have e1 : (c.toList.take (n * ti.size)) = vs := by rw [hvs, hs, ← hl]
                rw [e1, List.length_append, hul, hvl, List.take_append_of_le_length (by simp)]
                rw [List.take_of_length_le (by simp)]
            · rw [upd_ne _ _ _ _ hgg] at hg2
              have k := s.rows g' r (by show upd L0 g _ g' = some r; rw [upd_ne _ _ _ _ hgg]; exact hg2)
              exact k.ext hx1 (setRow_other w g g' _ hgg)
          · simp only [hv, VS]
            exact ⟨_, _, rfl, hroom, .inr ⟨rfl, _, e, _, hnew, by rw [hns]; omega⟩⟩
      · have hr := run_append_out (ty := ty) (w := w) (a := xa) (n := n) (cap := cap) (vs := vs) hT hi hz (run_src (P := P) (w := w.drew) hvs' hold) (run_src (P := P) (w := w.drew) (ya := ya) (yc := yc) hus' hcy) (by omega) h63
          (growslice_fits (by omega) hb)
        refine grown vs _ _ _ hvv h1v (grownCap_ge _ _ _ _) ?_ rfl (by rw [ex', ey]; exact hr)
        have hge := grownCap_ge w (n + m) cap e
        rw [List.length_append, List.length_append, hzl, ← hul, hm, ← hvl, hl, ← Nat.add_mul, ← Nat.add_mul]
        congr 1
        omega

theorem JO.append {T e : TypeId} {x y : Operand} {og : Option Nat} {cs ys : List AV} {sz n m : Nat} {ti : TypeInfo} {z : Value} (hT : P.underlying T = some (.slice e)) (hi : P.info? e = some ti) (hz : ti.zero = some z) (hs : ti.size = sz) (hzz : z.cells.size = sz)
    (hF : Fre L0 og) (hx : ev t x = hv og sz n) (hnil : og = none → cs = [] ∧ n = 0) (hl : cs.length = n * sz) (hy : srcOf (updo L0 og ⟨e, true, cs⟩) (ev t y) = some (m, ys)) (hm : ys.length = m * sz) (h1 : ones ys = true)
    (hb : (n + m) * ti.bytes ≤ 140737488355328) (hb2 : n + m ≤ 140737488355328) (hsz : 0 < sz) (hd : dok N d = true)
    (K : ∀ og', Fre L0 og' → (og' = none → cs ++ ys = [] ∧ n + m = 0) → JO P N ops Q os (t.putO d (hv og' sz (n + m))) (updo L0 og' ⟨e, true, cs ++ ys⟩)) :
    JO P N ops Q (⟨d, .call { callee := .builtin .append, args := #[x, y], argTypes := #[T, T] }, ty, pos, af, none⟩ :: os) t (updo L0 og ⟨e, true, cs⟩) := JO.append' hT hi hz hs hzz hF hx hnil hl hy hm hb hb2 hsz hd K
end
end Go.Proofs.YtljgkjkdmoejfaaAv
