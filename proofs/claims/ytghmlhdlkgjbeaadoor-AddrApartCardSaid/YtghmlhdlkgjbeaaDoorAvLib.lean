/-
  SYMBOLIC RUNS over the model (own framework): contracts of the library's functions (out of the shelf's), as contracts of one's own.
-/
import Derived.Test.YtghmlhdlkgjbeaaDoorAvXl
import Derived.Below
import Derived.BigQuiet
set_option linter.unusedVariables false
set_option linter.unusedSimpArgs false
namespace Go.Proofs.YtghmlhdlkgjbeaaDoorAv
open Go Go.RowKit

theorem Below.drewN' (w : World) (n : Nat) : Below w.heap.size w (w.drewN n) := ⟨rfl, rfl, rfl, Nat.le_refl _, fun _ _ => rfl⟩
theorem Below.same' {w w' : World} (h : w' = w) : Below w.heap.size w w' := by rw [h]; exact Below.refl _ _
theorem Below.ext' {L : GH} {w w' : World} (h : Below w.heap.size w w') : Ext L w L w' :=
  ⟨h.os, h.tape, h.output, h.size, fun b hb _ => h.block b hb, fun b _ hl => hl, fun b c e fr hc => ⟨c, e, fr, by
    have hb : b < w.heap.size := by
      rcases Nat.lt_or_ge b w.heap.size with h' | h'
      · exact h'
      · rw [Array.getElem?_eq_none h'] at hc; cases hc
    rw [h.block b hb]; exact hc, rfl⟩⟩

section
variable {P : Program}
/-- A contract out of what a call does to a world. -/
theorem JF.lib {f : FuncId} {args : List AV} {L : GH} {v : AV}
    (h : ∀ w xs, Glb L w → (∀ g, w.heap.size ≤ g → L g = none) → VSL L w args xs → Calls P f xs.toArray w fun e w' => ∃ x, e = .returned x ∧ VS L w' v x ∧ Below w.heap.size w w') : JF P f args L (fun r L' => r = v ∧ L' = L) := by
  intro w xs hg hv hrows
  refine (h w xs hg (fun g hg => ?_) hv).mono fun e w' ⟨x, he, hx, hb⟩ => ⟨v, x, L, he, hx, fun g r hr => ?_, Below.ext' hb, rfl, rfl⟩
  · cases hl : L g with
    | none => rfl
    | some r =>
      obtain ⟨c, fr, vs, hc, _⟩ := hrows g r hl
      rw [Array.getElem?_eq_none hg] at hc
      cases hc
  · have k := hrows g r hr
    obtain ⟨c, fr, vs, hc, _⟩ := hrows g r hr
    have hb' : g < w.heap.size := by
      rcases Nat.lt_or_ge g w.heap.size with h' | h'
      · exact h'
      · rw [Array.getElem?_eq_none h'] at hc; cases hc
    exact k.ext (Below.ext' hb) (hb.block g hb')

theorem JF.libA {f : FuncId} {args : List AV} {L : GH} {alts : List (Prop × XV)}
    (h : ∀ w xs, Glb L w → (∀ g, w.heap.size ≤ g → L g = none) → VSL L w args xs → Calls P f xs.toArray w fun e w' => ∃ a ∈ alts, a.1 ∧ ∃ x, e = .returned x ∧ VS L w' (toAV a.2) x ∧ Below w.heap.size w w') : JF P f args L (fun r L' => L' = L ∧ ∃ a ∈ alts, a.1 ∧ r = toAV a.2) := by
  intro w xs hg hv hrows
  refine (h w xs hg (fun g hg => ?_) hv).mono fun e w' ⟨a, ham, hφ, x, he, hx, hb⟩ => ⟨toAV a.2, x, L, he, hx, fun g r hr => ?_, Below.ext' hb, rfl, a, ham, hφ, rfl⟩
  · cases hl : L g with
    | none => rfl
    | some r =>
      obtain ⟨c, fr, vs, hc, _⟩ := hrows g r hl
      rw [Array.getElem?_eq_none hg] at hc
      cases hc
  · have k := hrows g r hr
    obtain ⟨c, fr, vs, hc, _⟩ := hrows g r hr
    have hb' : g < w.heap.size := by
      rcases Nat.lt_or_ge g w.heap.size with h' | h'
      · exact h'
      · rw [Array.getElem?_eq_none h'] at hc; cases hc
    exact k.ext (Below.ext' hb) (hb.block g hb')
theorem at_lib {f : FuncId} {fn : Func} {c : Code} (hf : P.funcs[f]? = some fn) (hb : fn.body = some c) (hr : (fn.name == "runtime.NumGoroutine") = false) {C : AT}
    (h : ∀ args cs alts, C args = some (cs, alts) → (∀ p ∈ cs, p) → pdL args = true ∧ (∀ a ∈ alts, a.2.pd = true) ∧ ∀ L w xs, Glb L w → (∀ g, w.heap.size ≤ g → L g = none) → VSL L w (toAVL args) xs →
      Calls P f xs.toArray w fun e w' => ∃ a ∈ alts, a.1 ∧ ∃ x, e = .returned x ∧ VS L w' (toAV a.2) x ∧ Below w.heap.size w w') : ATok P f C := by
  refine ⟨⟨fn, c, hf, hb, hr⟩, fun args cs alts hC hc ρ bs ha => ?_⟩
  obtain ⟨h1, h2, h3⟩ := h args cs alts hC hc
  refine ⟨h2, fun L => ?_⟩
  rw [RVL.pd args bs h1 ha]
  exact JF.libA fun w xs hg hfr hv => h3 L w xs hg hfr hv
theorem ct_lib {f : FuncId} {fn : Func} {c : Code} (hf : P.funcs[f]? = some fn) (hb : fn.body = some c) (hr : (fn.name == "runtime.NumGoroutine") = false) {C : CT}
    (h : ∀ args cs v, C args = some (cs, v) → (∀ p ∈ cs, p) → pdL args = true ∧ v.pd = true ∧ ∀ L w xs, Glb L w → (∀ g, w.heap.size ≤ g → L g = none) → VSL L w (toAVL args) xs →
      Calls P f xs.toArray w fun e w' => ∃ x, e = .returned x ∧ VS L w' (toAV v) x ∧ Below w.heap.size w w') : CTok P f C := by
  refine ⟨⟨fn, c, hf, hb, hr⟩, fun args cs v hC hc ρ bs ha => ?_⟩
  obtain ⟨h1, h2, h3⟩ := h args cs v hC hc
  refine ⟨toAV v, pd_RV ρ v h2, fun L => ?_⟩
  rw [RVL.pd args bs h1 ha]
  exact JF.lib fun w xs hg hfr hv => h3 L w xs hg hfr hv

theorem ct_lib2 {f : FuncId} {fn : Func} {c : Code} (hf : P.funcs[f]? = some fn) (hb : fn.body = some c) (hr : (fn.name == "runtime.NumGoroutine") = false) {α β : Type} {d : Dc α} {e : Dc β} (hd : DcOk d) (he : DcOk e) {cs : α → β → List Prop} {v : α → β → XV} (hv : ∀ a b, (v a b).pd = true)
    (h : ∀ a b, (∀ p ∈ cs a b, p) → ∀ L w x y, Glb L w → (∀ g, w.heap.size ≤ g → L g = none) → VS L w (toAV (d.enc a)) x → VS L w (toAV (e.enc b)) y → Calls P f #[x, y] w fun en w' => ∃ z, en = .returned z ∧ VS L w' (toAV (v a b)) z ∧ Below w.heap.size w w') : CTok P f (C2 d e cs v) :=
  ct_lib hf hb hr fun args ps u hC hc => by
    unfold C2 at hC
    split at hC
    · split at hC
      · rename_i p a q b hx hy
        simp only [Option.some.injEq, Prod.mk.injEq] at hC
        obtain ⟨rfl, rfl⟩ := hC
        obtain ⟨h1, h2, h3⟩ := hd _ p a hx fun r hr => hc r (by simp [hr])
        obtain ⟨k1, k2, k3⟩ := he _ q b hy fun r hr => hc r (by simp [hr])
        refine ⟨by simp [pdL, h1, k1], hv _ _, fun L w xs hg hfr hz => ?_⟩
        match xs, hz with
        | [x, y], hz =>
          simp only [toAVL, VSL] at hz
          exact h a b (fun r hr => hc r (by simp [hr])) L w x y hg hfr (h3 L w x hz.1) (k3 L w y hz.2.1)
        | [], hz => simp [toAVL, VSL] at hz
        | [_], hz => simp [toAVL, VSL] at hz
        | _ :: _ :: _ :: _, hz => simp [toAVL, VSL] at hz
      · cases hC
    · cases hC
theorem VSL_str1 {L : GH} {w : World} {a : ByteArray} {xs : List Value} (h : VSL L w [.p (.string a)] xs) : xs = [.string a] := by
  have := VSL_map_p (l := [.string a]) (xs := xs) (by simpa using h)
  exact this
theorem VSL_str2 {L : GH} {w : World} {a b : ByteArray} {xs : List Value} (h : VSL L w [.p (.string a), .p (.string b)] xs) : xs = [.string a, .string b] :=
  VSL_map_p (l := [.string a, .string b]) (xs := xs) (by simpa using h)
theorem VSL_str3 {L : GH} {w : World} {a b c : ByteArray} {xs : List Value} (h : VSL L w [.p (.string a), .p (.string b), .p (.string c)] xs) : xs = [.string a, .string b, .string c] :=
  VSL_map_p (l := [.string a, .string b, .string c]) (xs := xs) (by simpa using h)
theorem dStr_dec {x : XV} {cs : List Prop} {a : ByteArray} (h : dStr.dec x = some (cs, a)) : x = XT a ∧ cs = [] := by
  simp only [dStr] at h
  split at h
  · rename_i h1
    simp only [Option.some.injEq, Prod.mk.injEq] at h
    exact ⟨by rw [strO_eq h1, h.2], h.1.symm⟩
  · cases h
theorem dInt_dec {x : XV} {cs : List Prop} {a : Int} (h : dInt.dec x = some (cs, a)) : x = XI a ∧ cs = [] := by
  simp only [dInt] at h
  split at h
  · rename_i h1
    simp only [Option.some.injEq, Prod.mk.injEq] at h
    exact ⟨by rw [intO_eq h1, h.2], h.1.symm⟩
  · cases h
theorem ct_str1 {f : FuncId} {fn : Func} {c : Code} (hf : P.funcs[f]? = some fn) (hb : fn.body = some c) (hr : (fn.name == "runtime.NumGoroutine") = false) {cs : ByteArray → List Prop} {v : ByteArray → XV} (hv : ∀ a, (v a).pd = true)
    (h : ∀ a, (∀ p ∈ cs a, p) → ∀ L w, Glb L w → (∀ g, w.heap.size ≤ g → L g = none) → Calls P f #[.string a] w fun e w' => ∃ x, e = .returned x ∧ VS L w' (toAV (v a)) x ∧ Below w.heap.size w w') : CTok P f (C1 dStr cs v) :=
  ct_lib hf hb hr fun args ps u hC hc => by
    unfold C1 at hC
    split at hC
    · split at hC
      · rename_i h1
        simp only [Option.some.injEq, Prod.mk.injEq] at hC
        obtain ⟨rfl, rfl⟩ := hC
        obtain ⟨rfl, rfl⟩ := dStr_dec h1
        refine ⟨by simp [pdL, XV.pd], hv _, fun L w xs hg hfr hx => ?_⟩
        obtain rfl := VSL_str1 (by simpa [toAVL, toAV] using hx)
        exact h _ (by simpa using hc) L w hg hfr
      · cases hC
    · cases hC
theorem ct_str2 {f : FuncId} {fn : Func} {c : Code} (hf : P.funcs[f]? = some fn) (hb : fn.body = some c) (hr : (fn.name == "runtime.NumGoroutine") = false) {cs : ByteArray → ByteArray → List Prop} {v : ByteArray → ByteArray → XV} (hv : ∀ a b, (v a b).pd = true)
    (h : ∀ a b, (∀ p ∈ cs a b, p) → ∀ L w, Glb L w → (∀ g, w.heap.size ≤ g → L g = none) → Calls P f #[.string a, .string b] w fun e w' => ∃ x, e = .returned x ∧ VS L w' (toAV (v a b)) x ∧ Below w.heap.size w w') : CTok P f (C2 dStr dStr cs v) :=
  ct_lib hf hb hr fun args ps u hC hc => by
    unfold C2 at hC
    split at hC
    · split at hC
      · rename_i h1 h2
        simp only [Option.some.injEq, Prod.mk.injEq] at hC
        obtain ⟨rfl, rfl⟩ := hC
        obtain ⟨rfl, rfl⟩ := dStr_dec h1
        obtain ⟨rfl, rfl⟩ := dStr_dec h2
        refine ⟨by simp [pdL, XV.pd], hv _ _, fun L w xs hg hfr hx => ?_⟩
        obtain rfl := VSL_str2 (by simpa [toAVL, toAV] using hx)
        exact h _ _ (by simpa using hc) L w hg hfr
      · cases hC
    · cases hC
theorem ct_str3 {f : FuncId} {fn : Func} {c : Code} (hf : P.funcs[f]? = some fn) (hb : fn.body = some c) (hr : (fn.name == "runtime.NumGoroutine") = false) {cs : ByteArray → ByteArray → ByteArray → List Prop} {v : ByteArray → ByteArray → ByteArray → XV} (hv : ∀ a b c, (v a b c).pd = true)
    (h : ∀ a b c, (∀ p ∈ cs a b c, p) → ∀ L w, Glb L w → (∀ g, w.heap.size ≤ g → L g = none) → Calls P f #[.string a, .string b, .string c] w fun e w' => ∃ x, e = .returned x ∧ VS L w' (toAV (v a b c)) x ∧ Below w.heap.size w w') : CTok P f (C3 dStr dStr dStr cs v) :=
  ct_lib hf hb hr fun args ps u hC hc => by
    unfold C3 at hC
    split at hC
    · split at hC
      · rename_i h1 h2 h3
        simp only [Option.some.injEq, Prod.mk.injEq] at hC
        obtain ⟨rfl, rfl⟩ := hC
        obtain ⟨rfl, rfl⟩ := dStr_dec h1
        obtain ⟨rfl, rfl⟩ := dStr_dec h2
        obtain ⟨rfl, rfl⟩ := dStr_dec h3
        refine ⟨by simp [pdL, XV.pd], hv _ _ _, fun L w xs hg hfr hx => ?_⟩
        obtain rfl := VSL_str3 (by simpa [toAVL, toAV] using hx)
        exact h _ _ _ (by simpa using hc) L w hg hfr
      · cases hC
    · cases hC
end

/-- A list of texts in memory that is only read. -/
def strsL (l : List ByteArray) : XV := .fz l.length 1 fun i => [XT (l.getD i ⟨#[]⟩)]
theorem strsL_AV (l : List ByteArray) : toAV (strsL l) = .fz l.length (l.map fun s => AV.p (.string s)) := by
  simp only [strsL, toAV]
  congr 1
  apply List.ext_getElem?
  intro i
  rw [List.getElem?_map]
  rcases Nat.lt_or_ge i l.length with h | h
  · have := vecOf_get (n := l.length) (sz := 1) (g := fun i => toAVL [XT (l.getD i ⟨#[]⟩)]) (i := i) (o := 0) h (by omega)
    simp only [Nat.mul_one, Nat.add_zero] at this
    rw [this, List.getElem?_eq_getElem h]
    simp [toAVL, toAV, List.getD_eq_getElem?_getD, List.getElem?_eq_getElem h]
  · rw [List.getElem?_eq_none h, List.getElem?_eq_none (by rw [vecOf_length]; omega)]
    rfl
/-- A new block of texts, as a slice. -/
theorem VS_newStrs {L : GH} {w : World} {l : List ByteArray} {T : TypeId} (hfr : L w.heap.size = none) :
    VS L (w.alloc (.cells (l.map Value.string).toArray T)) (toAV (strsL l)) (.slice (some ⟨w.heap.size, 0, none⟩) l.length l.length) := by
  rw [strsL_AV]
  simp only [VS]
  refine ⟨_, _, l.map Value.string, rfl, Nat.le_refl _, .inr ⟨_, rfl, hfr, ?_, fun i v hi => ?_⟩, ?_⟩
  · intro v hv
    obtain ⟨s, _, rfl⟩ := List.mem_map.1 hv
    rfl
  · rw [add_plain, Nat.zero_add]
    simp only [World.cell?, World.alloc]
    simp only [Array.getElem?_push_size]
    simpa using hi
  · induction l with
    | nil => simp [VSL]
    | cons s l ih =>
      simp only [List.map_cons, VSL, VS]
      exact ⟨trivial, by
        clear ih
        generalize (w.alloc (.cells (Value.string s :: l.map Value.string).toArray T)) = w'
        induction l with
        | nil => simp [VSL]
        | cons s l ih => simp only [List.map_cons, VSL, VS]; exact ⟨trivial, ih⟩⟩
end Go.Proofs.YtghmlhdlkgjbeaaDoorAv
