/-
  ABSTRACT VALUES over the model (own framework, part 6): loops with a told state, arithmetic without a wrap.
-/
import Derived.Test.YtljgkjkdmoejfaaAvLit
set_option linter.unusedVariables false
set_option linter.unusedSimpArgs false
namespace Go.Proofs.YtljgkjkdmoejfaaAv
open Go Go.RowKit

/-- Slots as told, over others. -/
def puts (t : TM) : List (Nat × AV) → TM
  | [] => t
  | (d, v) :: l => (puts t l).put d v
/-- These slots are as told. -/
def Eta (t : TM) : List (Nat × AV) → Prop
  | [] => True
  | (d, v) :: l => t d = v ∧ Eta t l
theorem TM.put_eta {t : TM} {d : Nat} {v : AV} (h : t d = v) : t.put d v = t := by
  funext i
  unfold TM.put
  split
  · rename_i e; rw [e, h]
  · rfl
theorem puts_eta {t : TM} : ∀ {l : List (Nat × AV)}, Eta t l → puts t l = t
  | [], _ => rfl
  | (d, v) :: l, h => by
    simp only [Eta] at h
    simp only [puts]
    rw [puts_eta h.2, TM.put_eta h.1]

/-- A loop whose slots that count are told by a state of the proof's own. -/
theorem J.loopS {P : Program} {N : Nat} {c : Code} {Q : Exit → TM → GH → Prop} {t : TM} {L : GH} {σ : Type} (S : σ → List (Nat × AV)) (H : σ → GH) (I : σ → Prop) (μ : σ → Nat) (s0 : σ)
    (hI : I s0) (ht : Eta t (S s0)) (hL : L = H s0)
    (round : ∀ s t, I s → J P N c (thn (fun t' L' => ∃ s', I s' ∧ μ s' < μ s ∧ Eta t' (S s') ∧ L' = H s') Q) (puts t (S s)) (H s)) : J P N (.loop c) Q t L := by
  refine J.loop (fun n t L => ∃ s, I s ∧ μ s = n ∧ Eta t (S s) ∧ L = H s) (μ s0) ⟨s0, hI, rfl, ht, hL⟩ ?_
  rintro n t L ⟨s, hI, rfl, ht, rfl⟩
  have := round s t hI
  rw [puts_eta ht] at this
  refine this.mono ?_
  intro e t L q
  cases e with
  | normal =>
    obtain ⟨s', h1, h2, h3, h4⟩ := q
    exact ⟨μ s', h2, s', h1, rfl, h3, h4⟩
  | exit id => exact q
  | goto l => exact q
  | ret => exact q
  | panic ch => exact q
  | outgrown => exact q

/-- What follows depends on a few slots alone: the others are forgotten. -/
theorem J.keep {P : Program} {N : Nat} {c : Code} {Q : Exit → TM → GH → Prop} {t : TM} {L : GH} (l : List (Nat × AV)) (ht : Eta t l) (h : ∀ t, J P N c Q (puts t l) L) : J P N c Q t L := by
  have := h t
  rwa [puts_eta ht] at this

theorem wrap64_in {n : Int} (h0 : -9223372036854775808 ≤ n) (h1 : n ≤ 9223372036854775807) : IntKind.i64.wrap n = n := by rw [IntKind.wrap_i64]; omega
theorem wrap8_in {n : Int} (h0 : 0 ≤ n) (h1 : n ≤ 255) : IntKind.u8.wrap n = n := by rw [IntKind.wrap_u8]; omega

section
variable {P : Program} {N : Nat} {ops : Array Oper} {Q : Exit → TM → GH → Prop} {d : Option Nat} {ty : TypeId} {pos : String} {af : Array Edge} {os : List Oper} {t : TM} {L : GH}

theorem JO.add64 {T T' : TypeId} {x y : Operand} {a b : Int} (hx : ev t x = .p (.int .i64 a)) (hy : ev t y = .p (.int .i64 b)) (hd : dok N d = true) (h0 : -9223372036854775808 ≤ a + b) (h1 : a + b ≤ 9223372036854775807)
    (K : JO P N ops Q os (t.putO d (.p (.int .i64 (a + b)))) L) : JO P N ops Q (⟨d, .binOp .add T x y T', ty, pos, af, none⟩ :: os) t L :=
  JO.pure (by simp only [fv, hx, hy, ibin, reduceIte, wrap64_in h0 h1]) hd K
theorem JO.sub64 {T T' : TypeId} {x y : Operand} {a b : Int} (hx : ev t x = .p (.int .i64 a)) (hy : ev t y = .p (.int .i64 b)) (hd : dok N d = true) (h0 : -9223372036854775808 ≤ a - b) (h1 : a - b ≤ 9223372036854775807)
    (K : JO P N ops Q os (t.putO d (.p (.int .i64 (a - b)))) L) : JO P N ops Q (⟨d, .binOp .sub T x y T', ty, pos, af, none⟩ :: os) t L :=
  JO.pure (by simp only [fv, hx, hy, ibin, reduceIte, wrap64_in h0 h1]) hd K
theorem JO.add8 {T T' : TypeId} {x y : Operand} {a b : Int} (hx : ev t x = .p (.int .u8 a)) (hy : ev t y = .p (.int .u8 b)) (hd : dok N d = true) (h0 : 0 ≤ a + b) (h1 : a + b ≤ 255)
    (K : JO P N ops Q os (t.putO d (.p (.int .u8 (a + b)))) L) : JO P N ops Q (⟨d, .binOp .add T x y T', ty, pos, af, none⟩ :: os) t L :=
  JO.pure (by simp only [fv, hx, hy, ibin, reduceIte, wrap8_in h0 h1]) hd K
end

/-- What is asked of a type: its zero, how many cells, how many bytes. -/
def TI (P : Program) (T : TypeId) (z : Value) (sz b : Nat) : Prop := (P.info? T).map (fun i => (i.zero, i.size, i.bytes)) = some (some z, sz, b)
theorem TI.get {P : Program} {T : TypeId} {z : Value} {sz b : Nat} (h : TI P T z sz b) : ∃ ti, P.info? T = some ti ∧ ti.zero = some z ∧ ti.size = sz ∧ ti.bytes = b := by
  unfold TI at h
  cases hi : P.info? T with
  | none => simp [hi] at h
  | some i =>
    simp only [hi, Option.map_some, Option.some.injEq, Prod.mk.injEq] at h
    exact ⟨i, rfl, h.1, h.2.1, h.2.2⟩

section
variable {P : Program} {N : Nat} {ops : Array Oper} {Q : Exit → TM → GH → Prop} {d : Option Nat} {ty : TypeId} {pos : String} {af : Array Edge} {os : List Oper} {t : TM} {L : GH}

theorem R.idxSl {T e : TypeId} {x i : Operand} {g sz off n b : Nat} {z : Value} {k : IntKind} {j : Int} (hT : P.underlying T = some (.slice e)) (hI : TI P e z sz b)
    (hx : ev t x = .sl g sz off n) (hj : ev t i = .p (.int k j)) (hd : dok N d = true) (h0 : 0 ≤ j) (h1 : j < n)
    (K : JO P N ops Q os (t.putO d (.ptr g (off + j.toNat * sz))) L) : JO P N ops Q (⟨d, .indexAddr T x i, ty, pos, af, none⟩ :: os) t L := by
  obtain ⟨ti, hi, hz, hs, hb⟩ := hI.get
  exact JO.idxSl hT hi hs hx hj hd h0 h1 K

theorem R.idxFz {T e : TypeId} {x i : Operand} {n sz b : Nat} {z : Value} {cs : List AV} {k : IntKind} {j : Int} (hT : P.underlying T = some (.slice e)) (hI : TI P e z sz b)
    (hx : ev t x = .fz n cs) (hj : ev t i = .p (.int k j)) (hd : dok N d = true) (h0 : 0 ≤ j) (h1 : j < n) (hc : cs ≠ [])
    (K : JO P N ops Q os (t.putO d (.fp (cs.drop (j.toNat * sz)))) L) : JO P N ops Q (⟨d, .indexAddr T x i, ty, pos, af, none⟩ :: os) t L := by
  obtain ⟨ti, hi, hz, rfl, hb⟩ := hI.get
  exact JO.idxFz hT hi hx hj hd h0 h1 hc K

/-- An element of one cell, of a slice that is only read, whose elements are told by a list. -/
theorem R.idxFz1 {T e : TypeId} {x i : Operand} {b : Nat} {z : Value} {α : Type} {f : α → AV} {xs : List α} {k : IntKind} {j : Nat} (hT : P.underlying T = some (.slice e)) (hI : TI P e z 1 b)
    (hx : ev t x = .fz xs.length (xs.map f)) (hj : ev t i = .p (.int k j)) (hd : dok N d = true) (h1 : j < xs.length)
    (K : JO P N ops Q os (t.putO d (.fp (f xs[j] :: (xs.drop (j + 1)).map f))) L) : JO P N ops Q (⟨d, .indexAddr T x i, ty, pos, af, none⟩ :: os) t L := by
  refine R.idxFz hT hI hx hj hd (by omega) (by omega) (by intro h; rw [List.map_eq_nil_iff] at h; rw [h] at h1; simp at h1) ?_
  have : (xs.map f).drop ((j : Int).toNat * 1) = f xs[j] :: (xs.drop (j + 1)).map f := by
    rw [Int.toNat_natCast, Nat.mul_one, ← List.map_drop, List.drop_eq_getElem_cons h1]
    rfl
  rw [this]
  exact K

theorem R.st {T : TypeId} {x y : Operand} {g off sz b : Nat} {z : Value} {r : Row} {cs : List AV} (hI : TI P T z sz b) (hs : sz = cs.length)
    (hx : ev t x = .ptr g off) (hr : L g = some r) (hy : (ev t y).cells = cs) (h1 : ones cs = true) (hle : off + cs.length ≤ r.cs.length)
    (K : JO P N ops Q os t (upd L g ⟨r.e, r.ap, r.cs.take off ++ cs ++ r.cs.drop (off + cs.length)⟩)) : JO P N ops Q (⟨none, .store T x y, ty, pos, af, none⟩ :: os) t L := by
  obtain ⟨ti, hi, hz, h2, hb⟩ := hI.get
  exact JO.st hi (h2.trans hs) hx hr hy h1 hle K

/-- A store of one cell. -/
theorem R.st1 {T : TypeId} {x y : Operand} {g off b : Nat} {z : Value} {r : Row} {c : AV} (hI : TI P T z 1 b)
    (hx : ev t x = .ptr g off) (hr : L g = some r) (hy : ev t y = c) (h1 : c.one = true) (hle : off < r.cs.length)
    (K : JO P N ops Q os t (upd L g ⟨r.e, r.ap, r.cs.set off c⟩)) : JO P N ops Q (⟨none, .store T x y, ty, pos, af, none⟩ :: os) t L := by
  subst hy
  have hc : (ev t y).cells = [ev t y] := by cases h : ev t y <;> simp [h, AV.one, AV.cells] at h1 ⊢
  refine R.st hI rfl hx hr hc (by simp [ones, h1]) (by simp only [List.length_cons, List.length_nil]; omega) ?_
  have : r.cs.take off ++ [ev t y] ++ r.cs.drop (off + [ev t y].length) = r.cs.set off (ev t y) := by
    rw [List.set_eq_take_append_cons_drop, if_pos hle]
    simp
  rw [this]
  exact K

theorem R.append {T e : TypeId} {x y : Operand} {og : Option Nat} {cs ys : List AV} {sz n m b : Nat} {z : Value} {L0 : GH} (hT : P.underlying T = some (.slice e)) (hI : TI P e z sz b) (hzz : z.cells.size = sz)
    (hF : Fre L0 og) (hx : ev t x = hv og sz n) (hnil : og = none → cs = [] ∧ n = 0) (hl : cs.length = n * sz) (hy : srcOf (updo L0 og ⟨e, true, cs⟩) (ev t y) = some (m, ys)) (hm : ys.length = m * sz) (h1 : ones ys = true)
    (hb : (n + m) * b ≤ 140737488355328) (hb2 : n + m ≤ 140737488355328) (hsz : 0 < sz) (hd : dok N d = true)
    (K : ∀ og', Fre L0 og' → (og' = none → cs ++ ys = [] ∧ n + m = 0) → JO P N ops Q os (t.putO d (hv og' sz (n + m))) (updo L0 og' ⟨e, true, cs ++ ys⟩)) :
    JO P N ops Q (⟨d, .call { callee := .builtin .append, args := #[x, y], argTypes := #[T, T] }, ty, pos, af, none⟩ :: os) t (updo L0 og ⟨e, true, cs⟩) := by
  obtain ⟨ti, hi, hz, hs, rfl⟩ := hI.get
  exact JO.append hT hi hz hs hzz hF hx hnil hl hy hm h1 hb hb2 hsz hd K

theorem R.litFz {T e : TypeId} {xs : List Operand} {vs cs : List AV} {n sz b : Nat} {z : Value} (hT : P.underlying T = some (.slice e)) (hI : TI P e z sz b) (hn : n = xs.length)
    (hv : xs.map (ev t) = vs) (h1 : ∀ v ∈ vs, ones v.cells = true) (h2 : ∀ v ∈ vs, v.cells.length = sz) (hb : n * sz ≤ 16777216) (hc : vs.flatMap AV.cells = cs) (hd : dok N d = true)
    (K : JO P N ops Q os (t.putO d (.fz n cs)) L) : JO P N ops Q (⟨d, .buildSlice T n (partsOf xs).toArray, ty, pos, af, none⟩ :: os) t L := by
  obtain ⟨ti, hi, hz, hs, hb'⟩ := hI.get
  exact JO.litFz hT hi hz hs hn hv h1 h2 hb hc hd K

theorem R.litOwn {T e : TypeId} {xs : List Operand} {vs cs : List AV} {n sz b : Nat} {z : Value} (hT : P.underlying T = some (.slice e)) (hI : TI P e z sz b) (hn : n = xs.length)
    (hv : xs.map (ev t) = vs) (h1 : ∀ v ∈ vs, ones v.cells = true) (h2 : ∀ v ∈ vs, v.cells.length = sz) (hb : n * sz ≤ 16777216) (hc : vs.flatMap AV.cells = cs) (hd : dok N d = true)
    (K : ∀ g, L g = none → JO P N ops Q os (t.putO d (.sl g sz 0 n)) (upd L g ⟨e, true, cs⟩)) : JO P N ops Q (⟨d, .buildSlice T n (partsOf xs).toArray, ty, pos, af, none⟩ :: os) t L := by
  obtain ⟨ti, hi, hz, hs, hb'⟩ := hI.get
  exact JO.litOwn hT hi hz hs hn hv h1 h2 hb hc hd K
end

section
variable {P : Program} {N : Nat} {ops : Array Oper} {Q : Exit → TM → GH → Prop} {d : Option Nat} {ty : TypeId} {pos : String} {af : Array Edge} {os : List Oper} {t : TM} {L : GH}

/-- A test whose outcome is known. -/
theorem JO.pureB {op : Op} {c : Bool} (b : Bool) (h : fv t op = some (.p (.bool c))) (hc : c = b) (hd : dok N d = true) (k : JO P N ops Q os (t.putO d (.p (.bool b))) L) : JO P N ops Q (⟨d, op, ty, pos, af, none⟩ :: os) t L := by
  subst hc
  exact JO.pure h hd k

/-- A whole number told in other words. -/
theorem JO.pureI {op : Op} {k : IntKind} {i : Int} (j : Int) (h : fv t op = some (.p (.int k i))) (hc : i = j) (hd : dok N d = true) (K : JO P N ops Q os (t.putO d (.p (.int k j))) L) : JO P N ops Q (⟨d, op, ty, pos, af, none⟩ :: os) t L := by
  subst hc
  exact JO.pure h hd K

theorem R.on {j s : Nat} {b c : Bool} {op : Op} (hs : decide (s < N) = true) (hj : (ops[j]?).bind (·.dst) = some s) (ht : ev t (.tmp s) = .p (.bool c)) (hc : (c == b) = true)
    (h : JO P N ops Q (⟨d, op, ty, pos, af, none⟩ :: os) t L) : JO P N ops Q (⟨d, op, ty, pos, af, some (j, b)⟩ :: os) t L := JO.on (of_decide_eq_true hs) hj ht hc h
theorem R.off {d j s : Nat} {b c : Bool} {op : Op} (hd : decide (d < N) = true) (hs : decide (s < N) = true) (hj : (ops[j]?).bind (·.dst) = some s) (ht : ev t (.tmp s) = .p (.bool c)) (hc : (c == b) = false)
    (h : JO P N ops Q os (t.putO (some d) (.p undef)) L) : JO P N ops Q (⟨some d, op, ty, pos, af, some (j, b)⟩ :: os) t L := JO.off (of_decide_eq_true hd) (of_decide_eq_true hs) hj ht hc h
theorem R.offU {d j s : Nat} {b : Bool} {op : Op} (hd : decide (d < N) = true) (hs : decide (s < N) = true) (hj : (ops[j]?).bind (·.dst) = some s) (ht : ev t (.tmp s) = .p undef)
    (h : JO P N ops Q os (t.putO (some d) (.p undef)) L) : JO P N ops Q (⟨some d, op, ty, pos, af, some (j, b)⟩ :: os) t L := JO.offU (of_decide_eq_true hd) (of_decide_eq_true hs) hj ht h

/-- The address of an element of one cell. -/
theorem R.idxSl1 {T e : TypeId} {x i : Operand} {g n b : Nat} {z : Value} {k : IntKind} {j : Nat} (hT : P.underlying T = some (.slice e)) (hI : TI P e z 1 b)
    (hx : ev t x = .sl g 1 0 n) (hj : ev t i = .p (.int k j)) (hd : dok N d = true) (h1 : j < n)
    (K : JO P N ops Q os (t.putO d (.ptr g j)) L) : JO P N ops Q (⟨d, .indexAddr T x i, ty, pos, af, none⟩ :: os) t L := by
  refine R.idxSl hT hI hx hj hd (by omega) (by omega) ?_
  simpa using K
end

theorem J.ifT {P : Program} {N : Nat} {o : Operand} {x y : Code} {Q : Exit → TM → GH → Prop} {t : TM} {L : GH} (ho : ev t o = .p (.bool true)) (h : J P N x Q t L) : J P N (.cond o x y) Q t L := J.cond ho (fun _ => h) (fun h => by cases h)
theorem J.ifF {P : Program} {N : Nat} {o : Operand} {x y : Code} {Q : Exit → TM → GH → Prop} {t : TM} {L : GH} (ho : ev t o = .p (.bool false)) (h : J P N y Q t L) : J P N (.cond o x y) Q t L := J.cond ho (fun h => by cases h) (fun _ => h)

theorem J.pop {P : Program} {N : Nat} {c : Code} {Q : Exit → TM → GH → Prop} {t : TM} {L : GH} {g : Nat} {r : Row} (hg : L g = none) (h : J P N c Q t L) : J P N c Q t (upd L g r) :=
  h.drop _ fun b s hb => by rw [upd_ne]; exact hb; rintro rfl; rw [hg] at hb; cases hb

/-- A string's cell. -/
def strAV (s : ByteArray) : AV := .p (.string s)
/-- A slice of strings that is only read. -/
def strsAV (l : List ByteArray) : AV := .fz l.length (l.map strAV)
def boolAV (b : Bool) : AV := .p (.bool b)
def intAV (i : Int) : AV := .p (.int .i64 i)


/-! Bytes and strings -/
def byt (s : ByteArray) : List UInt8 := s.data.toList
theorem byt_of (l : List UInt8) : byt (ofBytes l) = l := by simp [byt, ofBytes]
theorem of_byt (s : ByteArray) : ofBytes (byt s) = s := by
  apply ByteArray.ext
  simp [byt, ofBytes]
theorem byt_inj {a b : ByteArray} (h : byt a = byt b) : a = b := by rw [← of_byt a, h, of_byt]
theorem byt_length (s : ByteArray) : (byt s).length = s.size := by simp [byt]
theorem size_of (l : List UInt8) : (ofBytes l).size = l.length := by rw [← byt_length, byt_of]
theorem byt_append (a b : ByteArray) : byt (a ++ b) = byt a ++ byt b := by simp [byt, ByteArray.append_eq]
theorem of_append (a b : List UInt8) : ofBytes a ++ ofBytes b = ofBytes (a ++ b) := byt_inj (by rw [byt_append, byt_of, byt_of, byt_of])
theorem sbyte_get (s : ByteArray) (i : Nat) (h : i < (byt s).length) : sbyte s i = ((byt s)[i].toNat : Int) := by
  unfold sbyte
  rw [Int.toNat_natCast, List.getD_eq_getElem?_getD]
  show (((((byt s)[i]?).getD 0).toNat : Nat) : Int) = _
  rw [List.getElem?_eq_getElem h]
  rfl
theorem byt_cut (s : ByteArray) (a b : Nat) : byt (s.extract a b) = ((byt s).take b).drop a := by
  rw [List.drop_take]
  simp [byt, ByteArray.data_extract]
theorem bytesAV_eq (s : ByteArray) : bytesAV s = (byt s).map byteAV := rfl
theorem ofBytes_inj {a b : List UInt8} : ofBytes a = ofBytes b ↔ a = b := ⟨fun h => by rw [← byt_of a, h, byt_of], fun h => by rw [h]⟩

end Go.Proofs.YtljgkjkdmoejfaaAv
