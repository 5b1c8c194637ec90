/-
  ABSTRACT VALUES over the model (own framework): interface values; texts out of bytes.
-/
import Derived.Test.YtljgkjkdmoejfaaAvAr
set_option linter.unusedVariables false
set_option linter.unusedSimpArgs false
namespace Go.Proofs.YtljgkjkdmoejfaaAv
open Go Go.RowKit

section
variable {P : Program} {N : Nat} {ops : Array Oper} {os : List Oper} {Q : Exit → TM → GH → Prop} {t : TM} {L : GH} {d : Option Nat} {ty : TypeId} {pos : String} {af : Array Edge}

def notIf : TypeDesc → Bool
  | .interface _ => false
  | _ => true
theorem run_mkIface {T : TypeId} {u : TypeDesc} (hT : P.underlying T = some u) (hu : notIf u = true) (z : Value) (w : World) : (Instr.makeInterface T z).run P w = .ok (.iface T z) w := by
  unfold Instr.makeInterface
  simp only [Sem.run_bind, run_underlying hT, Result.andThen_ok]
  cases u <;> first | rfl | cases hu

theorem JO.mkIface {T : TypeId} {x : Operand} {u : TypeDesc} {v : Value} (hT : P.underlying T = some u) (hu : notIf u = true) (hx : ev t x = .p v) (hd : dok N d = true)
    (K : JO P N ops Q os (t.putO d (.p (.iface T v))) L) : JO P N ops Q (⟨d, .makeInterface T x, ty, pos, af, none⟩ :: os) t L :=
  JO.still hd (fun c w s => by
    have e1 := s.ev x
    rw [hx] at e1
    simp only [VS] at e1
    refine ⟨.iface T v, ?_, by simp [VS]⟩
    simp [execOp, e1, run_mkIface hT hu]) K
/-- Of whatever value. -/
theorem JO.mkIfaceAny {T : TypeId} {x : Operand} {u : TypeDesc} (hT : P.underlying T = some u) (hu : notIf u = true) (hd : dok N d = true)
    (K : JO P N ops Q os (t.putO d (.iface T .top)) L) : JO P N ops Q (⟨d, .makeInterface T x, ty, pos, af, none⟩ :: os) t L :=
  JO.still hd (fun c w s => by
    refine ⟨.iface T (c.eval x), ?_, ⟨_, rfl, trivial⟩⟩
    simp [execOp, run_mkIface hT hu]) K

theorem equal_nn' {T : TypeId} {ms : Array (String × TypeId)} (hT : P.underlying T = some (.interface ms)) (w : World) (n : Nat) : (Op.equalIn (n + 1) T .nilIface .nilIface).run P w = .ok true w := by
  simp only [Op.equalIn, Sem.run_bind, run_underlying hT, Result.andThen_ok]
  rfl
theorem equal_nn {T : TypeId} {ms : Array (String × TypeId)} (hT : P.underlying T = some (.interface ms)) (w : World) : (Op.equal T .nilIface .nilIface).run P w = .ok true w := equal_nn' hT w 9999
theorem equal_ni' {T : TypeId} {ms : Array (String × TypeId)} (hT : P.underlying T = some (.interface ms)) (u : TypeId) (z : Value) (w : World) (n : Nat) : (Op.equalIn (n + 1) T .nilIface (.iface u z)).run P w = .ok false w := by
  simp only [Op.equalIn, Sem.run_bind, run_underlying hT, Result.andThen_ok]
  rfl
theorem equal_ni {T : TypeId} {ms : Array (String × TypeId)} (hT : P.underlying T = some (.interface ms)) (u : TypeId) (z : Value) (w : World) : (Op.equal T .nilIface (.iface u z)).run P w = .ok false w := equal_ni' hT u z w 9999
theorem equal_in' {T : TypeId} {ms : Array (String × TypeId)} (hT : P.underlying T = some (.interface ms)) (u : TypeId) (z : Value) (w : World) (n : Nat) : (Op.equalIn (n + 1) T (.iface u z) .nilIface).run P w = .ok false w := by
  simp only [Op.equalIn, Sem.run_bind, run_underlying hT, Result.andThen_ok]
  rfl
theorem equal_in {T : TypeId} {ms : Array (String × TypeId)} (hT : P.underlying T = some (.interface ms)) (u : TypeId) (z : Value) (w : World) : (Op.equal T (.iface u z) .nilIface).run P w = .ok false w := equal_in' hT u z w 9999
def isC : Operand → Bool
  | .const _ => true
  | _ => false
/-- Interface values, one of them nil: are they the same? -/
def niB (c : Bool) : AV → AV → Option Bool
  | .p .nilIface, .p .nilIface => match c with | true => some true | false => none
  | .p .nilIface, .p (.iface _ _) => some false
  | .p .nilIface, .iface _ _ => some false
  | .p (.iface _ _), .p .nilIface => some false
  | .iface _ _, .p .nilIface => some false
  | _, _ => none
theorem equal_niB {T : TypeId} {ms : Array (String × TypeId)} (hT : P.underlying T = some (.interface ms)) {c : Bool} {a b : AV} {r : Bool} (h : niB c a b = some r) {L : GH} {w : World} {x y : Value} (hx : VS L w a x) (hy : VS L w b y) :
    ((binOp .eql T x y).run P w = .ok (.bool r) w ∧ (binOp .neq T x y).run P w = .ok (.bool (!r)) w) ∧ ((x = .nilIface ∧ y = .nilIface ∧ c = true) ∨ ∀ op ox oy, (eqGuard op T ox oy x y).run P w = .ok () w) := by
  unfold niB at h
  split at h
  · simp only [VS] at hx hy
    subst hx hy
    split at h
    · obtain rfl := Option.some.inj h
      exact ⟨⟨by simp [binOp, equal_nn hT], by simp [binOp, equal_nn hT]⟩, .inl ⟨rfl, rfl, rfl⟩⟩
    · cases h
  · simp only [VS] at hx hy
    subst hx hy
    obtain rfl := Option.some.inj h
    exact ⟨⟨by simp [binOp, equal_ni hT], by simp [binOp, equal_ni hT]⟩, .inr fun op ox oy => by unfold eqGuard; split <;> simp⟩
  · simp only [VS] at hx hy
    obtain ⟨z, rfl, _⟩ := hy
    subst hx
    obtain rfl := Option.some.inj h
    exact ⟨⟨by simp [binOp, equal_ni hT], by simp [binOp, equal_ni hT]⟩, .inr fun op ox oy => by unfold eqGuard; split <;> simp⟩
  · simp only [VS] at hx hy
    subst hx hy
    obtain rfl := Option.some.inj h
    exact ⟨⟨by simp [binOp, equal_in hT], by simp [binOp, equal_in hT]⟩, .inr fun op ox oy => by unfold eqGuard; split <;> simp⟩
  · simp only [VS] at hx hy
    obtain ⟨z, rfl, _⟩ := hx
    subst hy
    obtain rfl := Option.some.inj h
    exact ⟨⟨by simp [binOp, equal_in hT], by simp [binOp, equal_in hT]⟩, .inr fun op ox oy => by unfold eqGuard; split <;> simp⟩
  · cases h
theorem eqGuard_nc {T : TypeId} {ox oy : Operand} (hc : (isC ox || isC oy) = true) (op : BinOp) (w : World) : (eqGuard op T ox oy .nilIface .nilIface).run P w = .ok () w := by
  unfold eqGuard
  cases ox <;> cases oy <;> first | (cases hc; done) | (split <;> simp)

theorem JO.eqIface {T T' : TypeId} {x y : Operand} {ms : Array (String × TypeId)} {a b : AV} {r ne : Bool} (hT : P.underlying T = some (.interface ms)) (h : niB (isC x || isC y) a b = some r) (hx : ev t x = a) (hy : ev t y = b) (hd : dok N d = true)
    (K : JO P N ops Q os (t.putO d (.p (.bool (bif ne then !r else r)))) L) : JO P N ops Q (⟨d, .binOp (bif ne then .neq else .eql) T x y T', ty, pos, af, none⟩ :: os) t L :=
  JO.still hd (fun c w s => by
    have e1 := s.ev x
    have e2 := s.ev y
    rw [hx] at e1
    rw [hy] at e2
    obtain ⟨h1, h2⟩ := equal_niB hT h e1 e2
    have hg : ∀ op, (eqGuard op T x y (c.eval x) (c.eval y)).run P w = .ok () w := by
      intro op
      rcases h2 with ⟨e3, e4, hc⟩ | h2
      · rw [e3, e4]
        exact eqGuard_nc hc op w
      · exact h2 op x y
    refine ⟨.bool (bif ne then !r else r), ?_, by simp [VS]⟩
    cases ne
    · simp [execOp, hg, h1.1]
    · simp [execOp, hg, h1.2]) K

/-- `string(b)`, of a slice of one's own that begins anywhere in its block. -/
theorem JO.strSl {S T e : TypeId} {x : Operand} {g off n : Nat} {r : Row} {bs : List UInt8} (hS : P.underlying S = some (.slice e)) (hT : P.underlying T = some .string) (he : P.underlying e = some (.int .u8))
    (hx : ev t x = .sl g 1 off n) (hr : L g = some r) (hb : ∀ i b, bs[i]? = some b → r.cs[off + i]? = some (byteAV b)) (hn : n = bs.length) (hd : dok N d = true)
    (K : JO P N ops Q os (t.putO d (.p (.string (ofBytes bs)))) L) : JO P N ops Q (⟨d, .convert S T x, ty, pos, af, none⟩ :: os) t L :=
  JO.still hd (fun a w s => by
    have e1 := s.ev x
    rw [hx] at e1
    simp only [VS] at e1
    obtain ⟨ad, cap, e1, hle, hc⟩ := e1
    refine ⟨.string (ofBytes bs), ?_, by simp [VS]⟩
    obtain ⟨c, fr, vs, hh, _, _, hl, hvs, hv, _⟩ := s.rows g r hr
    have : (convert S T (a.eval x)).run P w = .ok (.string (ofBytes bs)) w := by
      rw [e1]
      refine run_strOf hS hT he hn ?_
      rcases hc with hc | ⟨rfl, _⟩
      · left
        have : bs.length = 0 := by omega
        exact List.length_eq_zero_iff.1 this
      · refine .inr ⟨_, rfl, fun i v hi => ?_⟩
        rw [List.getElem?_map] at hi
        cases hb' : bs[i]? with
        | none => rw [hb'] at hi; cases hi
        | some b =>
          rw [hb'] at hi
          obtain rfl := Option.some.inj hi
          obtain ⟨v, h1, h2⟩ := hv.get _ _ (hb i b hb')
          simp only [byteAV, VS] at h2
          subst h2
          rw [hvs, List.getElem?_take] at h1
          split at h1
          · rw [add_plain]
            unfold World.cell?
            simp only [hh]
            rw [← Array.getElem?_toList]
            exact h1
          · cases h1
    simp [execOp, this]) K
/-- `string(b)`, of a slice that is only read. -/
theorem JO.strFz {S T e : TypeId} {x : Operand} {n : Nat} {bs : List UInt8} (hS : P.underlying S = some (.slice e)) (hT : P.underlying T = some .string) (he : P.underlying e = some (.int .u8))
    (hx : ev t x = .fz n (bs.map byteAV)) (hn : n = bs.length) (hd : dok N d = true)
    (K : JO P N ops Q os (t.putO d (.p (.string (ofBytes bs)))) L) : JO P N ops Q (⟨d, .convert S T x, ty, pos, af, none⟩ :: os) t L :=
  JO.still hd (fun a w s => by
    have e1 := s.ev x
    rw [hx] at e1
    simp only [VS] at e1
    obtain ⟨ad, cap, vs, e1, hle, hc, hv⟩ := e1
    refine ⟨.string (ofBytes bs), ?_, by simp [VS]⟩
    have hv' := VSL.of_p (fun b : UInt8 => Value.int .u8 b.toNat) bs vs hv
    have : (convert S T (a.eval x)).run P w = .ok (.string (ofBytes bs)) w := by
      rw [e1]
      refine run_strOf hS hT he hn ?_
      rcases hc with hc | ⟨ad', rfl, _, _, hc⟩
      · left
        rw [hc] at hv'
        cases bs with
        | nil => rfl
        | cons b l => simp at hv'
      · exact .inr ⟨ad', rfl, fun i v hi => hc i v (by rw [hv']; exact hi)⟩
    simp [execOp, this]) K
/-- `string(b)`, of none. -/
theorem JO.strNil {S T e : TypeId} {x : Operand} (hS : P.underlying S = some (.slice e)) (hT : P.underlying T = some .string) (he : P.underlying e = some (.int .u8))
    (hx : ev t x = .p (.slice none 0 0)) (hd : dok N d = true)
    (K : JO P N ops Q os (t.putO d (.p (.string (ofBytes [])))) L) : JO P N ops Q (⟨d, .convert S T x, ty, pos, af, none⟩ :: os) t L :=
  JO.still hd (fun a w s => by
    have e1 := s.ev x
    rw [hx] at e1
    simp only [VS] at e1
    refine ⟨.string (ofBytes []), ?_, by simp [VS]⟩
    have : (convert S T (a.eval x)).run P w = .ok (.string (ofBytes [])) w := by
      rw [e1]
      exact run_strOf hS hT he rfl (.inl rfl)
    simp [execOp, this]) K

/-! A slice without spare room -/
/-- `s[:n:n]`, of a slice that is only read. -/
theorem JO.slice3 {T e : TypeId} {x hi mx : Operand} {n : Nat} {cs : List AV} {ti : TypeInfo} {k k' : IntKind} (hT : P.underlying T = some (.slice e)) (hI : P.info? e = some ti)
    (hx : ev t x = .fz n cs) (hh : ev t hi = .p (.int k n)) (hm : ev t mx = .p (.int k' n)) (hd : dok N d = true)
    (K : JO P N ops Q os (t.putO d (.fzc n cs)) L) : JO P N ops Q (⟨d, .slice T x none (some hi) (some mx), ty, pos, af, none⟩ :: os) t L :=
  JO.still hd (fun a w s => by
    have e1 := s.ev x
    have e2 := s.ev hi
    have e3 := s.ev mx
    rw [hx] at e1
    rw [hh] at e2
    rw [hm] at e3
    simp only [VS] at e1 e2 e3
    obtain ⟨ad, cap, vs, e1, hle, hc, hv⟩ := e1
    refine ⟨.slice ad n n, ?_, by simp only [VS]; exact ⟨ad, vs, rfl, hc, hv⟩⟩
    have : (Instr.sliceAt T (.slice ad n cap) none (some (.int k n)) (some (.int k' n))).run P w = .ok (.slice (if n = 0 then ad else ad.map (·.add (0 * ti.size))) n n) w := by
      have b1 : ∀ c, (Instr.sliceBound (.int k' (n : Int)) cap c).run P w = .ok n w := fun c => run_bound (by omega) (by omega)
      have b2 : ∀ c, (Instr.sliceBound (.int k (n : Int)) n c).run P w = .ok n w := fun c => run_bound (by omega) (by omega)
      simp [Instr.sliceAt, run_underlying hT, Instr.slice, Instr.sliceBounds, b1, b2, sizeOf, typeInfo, hI]
    have e0 : (if n = 0 then ad else ad.map (·.add (0 * ti.size))) = ad := by
      split
      · rfl
      · cases ad with
        | none => rfl
        | some a => simp [Addr.add]
    rw [e0] at this
    simp [execOp, e1, e2, e3, this]) K
/-- `append(x, y...)`, x without spare room. -/
theorem JO.appendC {T e : TypeId} {x y : Operand} {cs ys : List AV} {sz n m : Nat} {ti : TypeInfo} {z : Value} (hT : P.underlying T = some (.slice e)) (hi : P.info? e = some ti) (hz : ti.zero = some z) (hs : ti.size = sz) (hzz : z.cells.size = sz)
    (hx : ev t x = .fzc n cs) (hl : cs.length = n * sz) (hy : srcOf L (ev t y) = some (m, ys)) (hm : ys.length = m * sz) (hb : (n + m) * ti.bytes ≤ 140737488355328) (hb2 : n + m ≤ 140737488355328) (hsz : 0 < sz) (hd : dok N d = true)
    (K : JO P N ops Q os (t.putO d (.fz (n + m) (cs ++ ys))) L) :
    JO P N ops Q (⟨d, .call { callee := .builtin .append, args := #[x, y], argTypes := #[T, T] }, ty, pos, af, none⟩ :: os) t L :=
  JO.value (dok_lt hd) fun a w s => by
    have ex := s.ev x
    rw [hx] at ex
    simp only [VS] at ex
    obtain ⟨xa, vs, ex', hc, hv⟩ := ex
    obtain ⟨ya, yc, us, ey, hus, h1us, hcy⟩ := src_run (P := P) s.rows hy (s.ev y)
    have hrun : ∀ v w', (Builtin.append_ #[T, T] ty #[a.eval x, a.eval y]).run P w = .ok v w' → (execOp a.eval ⟨d, .call { callee := .builtin .append, args := #[x, y], argTypes := #[T, T] }, ty, pos, af, none⟩).run P w = .ok (.value v) w' := by
      intro v w' hv
      simp only [execOp, resolve, invoke, builtin, List.map_toArray, Sem.run_bind, Sem.run_pure, Result.andThen_ok] at hv ⊢
      simp only [List.map_cons, List.map_nil] at hv ⊢
      rw [hv]
      rfl
    have hul := hus.length
    have hvl := hv.length
    have hus' : us.length = m * ti.size := by rw [hs]; omega
    have hvs' : vs.length = n * ti.size := by rw [hs]; omega
    have hold : vs = [] ∨ ∃ ad, xa = some ad ∧ ∀ i v, vs[i]? = some v → w.cell? (ad.add i) = some v := by
      rcases hc with hc | ⟨ad, h1, _, _, h2⟩
      · exact .inl hc
      · exact .inr ⟨ad, h1, h2⟩
    have h1v : ∀ v ∈ vs, v.oneCell' = true := by
      rcases hc with hc | ⟨ad, _, _, h1, _⟩
      · rw [hc]; simp
      · exact h1
    by_cases hm0 : m = 0
    · subst hm0
      have hus0 : us = [] := List.length_eq_zero_iff.1 (by omega)
      subst hus0
      have hys0 : ys = [] := List.length_eq_zero_iff.1 (by omega)
      subst hys0
      have hr := run_append_in (ty := ty) (w := w) (w' := w) (a := xa) (n := n) (cap := n) hT hi (run_src (P := P) (w := w) (ya := ya) (yc := yc) hus' (.inl rfl)) (Nat.le_refl _) (fun b _ => by simp [storeCells]) (fun _ => rfl)
      refine ⟨_, w, _, L, hrun _ _ (by rw [ex', ey]; exact hr), Ext.refl _ _, s.rows, ?_, K⟩
      simp only [VS]
      rw [List.append_nil]
      exact ⟨xa, n, vs, rfl, Nat.le_refl _, hc, hv⟩
    · have h63 : ((n + m : Nat) : Int) ≤ 9223372036854775807 := by omega
      have hr := run_append_out (ty := ty) (w := w) (a := xa) (n := n) (cap := n) (vs := vs) hT hi hz (run_src (P := P) (w := w.drew) hvs' hold) (run_src (P := P) (w := w.drew) (ya := ya) (yc := yc) hus' hcy) (by omega) h63
        (growslice_fits (by omega) hb)
      have hp : Push w (w.drew.alloc (.cells (vs ++ us ++ (Builtin.zeroCells z.cells (grownCap w (n + m) n e - (n + m))).toList).toArray e)) (.cells ((vs ++ us) ++ (Builtin.zeroCells z.cells (grownCap w (n + m) n e - (n + m))).toList).toArray e (0, 0)) := Push.drew w _
      refine ⟨_, _, _, L, hrun _ _ (by rw [ex', ey]; exact hr), hp.ext L, hp.rows0 s.rows, ?_, K⟩
      simp only [VS]
      refine ⟨_, _, vs ++ us, rfl, grownCap_ge _ _ _ _, .inr ⟨_, rfl, fresh_of s.rows, ?_, fun i v hi => ?_⟩, (VSL.ext (hp.ext L) _ _ hv).append (VSL.ext (hp.ext L) _ _ hus)⟩
      · intro v hv'
        rcases List.mem_append.1 hv' with h | h
        · exact h1v v h
        · exact h1us v h
      · rw [add_plain, Nat.zero_add]
        simp only [World.cell?, hp.new]
        have hlt := (List.getElem?_eq_some_iff.1 hi).1
        simp only [Option.isSome_none, Bool.false_eq_true, if_false, List.getElem?_toArray]
        rw [List.getElem?_append_left hlt]
        exact hi
end
end Go.Proofs.YtljgkjkdmoejfaaAv
