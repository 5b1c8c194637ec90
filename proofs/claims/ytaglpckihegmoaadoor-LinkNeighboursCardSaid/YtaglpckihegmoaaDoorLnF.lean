/- Own texts, put together. -/
import Derived.Test.YtaglpckihegmoaaDoorLnE
import Derived.WalkKit
import Derived.Deep.LoopGhost
import Derived.Laws.OwnMore
import Derived.Laws.CopyRow
import Derived.Lib.ConvBytes
import Derived.Below
import Derived.KernelRfl
import Derived.Scope
import Derived.Laws.BytesString
import Derived.DataElems
import Derived.Laws.Tables
import Derived.Laws.Cells
import Derived.OrdersIn
import Derived.Laws.StructEq
import Derived.Laws.RangeString
import Derived.Maps.RangeRun
import Derived.BigQuiet
import Derived.Test.YtaglpckihegmoaaDoorProg
import Derived.Shelf.Small.Wraps
import Derived.Shelf.Utf8.RuneCount
import Derived.Shelf.Strings.Search1
import Derived.Shelf.Strings.Search2
import Derived.Shelf.Strings.Search3
import Derived.Shelf.Strings.Count
import Derived.Shelf.LaysM
import Derived.Shelf.Strings.Shaped
import Derived.Shelf.Strings.LastIndex
import Derived.Shelf.Strings.Prefix
import Derived.Shelf.Strings.Split
import Derived.Shelf.Strings.Fold
import Derived.Shelf.Unicode.Decode
import Derived.Shelf.Strings.RuneCount
import Derived.Shelf.Unicode.DecodeSlow
import Derived.Shelf.Unicode.DecodeAny
import Derived.Shelf.Unicode.ValidAny
import Derived.Shelf.Unicode.CaseLookup
import Derived.Shelf.Unicode.CaseConvert
import Derived.OpenShut
import Derived.SliceStrings
import Derived.ChangeSlices
import Derived.SizedLaws
import Derived.Carry
import Derived.Lib.LaidTab
import Derived.Shelf.Vars
import Derived.WideKeyArr2
import Derived.Lay
import Derived.Deep.DeepHandedRow
import Derived.Test.YtaglpckihegmoaaDoorRows
import Derived.Lib.LaidU8T
import Derived.DataReads
import Derived.Lib.Replace
import Derived.RangeFuncRecord
import Derived.RangeFuncIn
set_option linter.unusedVariables false
set_option linter.unusedSimpArgs false
set_option maxRecDepth 100000
namespace Go.Proofs.YtaglpckihegmoaaDoorAv
open Go Go.RowKit
section
variable {P : Program} {F : Fr} {ρ : Rho} {S : XS} {t : TM} {L : GH} {w : World}
theorem Rel.newF {f : GH} {n : Nat} {tg : List AV} {g : Nat} (h : Rel ⟨f, n, tg⟩ ρ S t L) (hg : L g = none) (r' : Row) : Rel ⟨upd f g r', n, tg⟩ ρ S t (upd L g r') :=
 ⟨h.sl, fun id r hr => by
  rcases h.rw id r hr with ⟨b, row, h1, h2, h3⟩ | h1
  ·have hne : b ≠ g := by rintro rfl; rw [hg] at h2; cases h2
   exact .inl ⟨b, row, h1, by rw [upd_ne _ _ _ _ hne]; exact h2, h3⟩
  ·exact .inr h1, h.inj, h.nx, fun b r hb => by
   by_cases hbl : b = g
   ·subst hbl
    change upd f b r' b = some r at hb
    rw [upd_same] at hb ⊢
    refine ⟨hb, fun id hid => ?_⟩
    obtain ⟨x, hx⟩ := Option.isSome_iff_exists.1 hid
    rcases h.rw id x hx with ⟨c, row, h1, h2, h3⟩ | ⟨h1, -⟩
    ·rw [h1]; rintro h4
     obtain rfl := Option.some.inj (Option.some.inj h4)
     rw [hg] at h2; cases h2
    ·rw [h1]; rintro h4; cases h4
   ·change upd f g r' b = some r at hb
    rw [upd_ne _ _ _ _ hbl] at hb ⊢
    exact h.fr b r hb, h.pin, h.gh⟩
theorem Push.rowsOb {w2 : World} {o : Obj} (h : Push w w2 o) (hr : ∀ g r, L g = some r → RowR L w g r) :
  ∀ g r, upd L w.heap.size ⟨0, .ob o, []⟩ g = some r → RowR (upd L w.heap.size ⟨0, .ob o, []⟩) w2 g r := by
 intro g r hg
 have hx := h.ext' L ⟨0, .ob o, []⟩
 by_cases hgs : g = w.heap.size
 ·subst hgs
  rw [upd_same] at hg
  obtain rfl := Option.some.inj hg
  exact ⟨rfl, h.new⟩
 ·rw [upd_ne _ _ _ _ hgs] at hg
  have k := hr g r hg
  exact k.ext hx (h.old k.lt)
theorem sim0 {args : List AV} {xs : List Value} {n : Nat} (hglb : Glb L w) (hv : VSL L w args xs) (hrows : ∀ g r, L g = some r → RowR L w g r) (hn : args.length ≤ n) : Sim n (tm0 args) L { tmps := xs.toArray ++ Array.replicate (n - xs.toArray.size) undef, defers := [] } w := by
 have hl := hv.length
 refine ⟨fun i => ?_, hrows, by simp; omega, rfl, hglb⟩
 unfold tm0
 by_cases hi : i < args.length
 ·have := hv.getD i hi
  have e : (xs.toArray ++ Array.replicate (n - xs.toArray.size) undef).getD i undef = xs.getD i undef := by
   have hx : i < xs.length := by omega
   simp [Array.getD_eq_getD_getElem?, Array.getElem?_append, hx, List.getD_eq_getElem?_getD]
  show VS L w _ ((xs.toArray ++ Array.replicate (n - xs.toArray.size) undef).getD i undef)
  rw [e]
  exact this
 ·have e : args.getD i .top = .top := by simp [List.getD_eq_getElem?_getD, List.getElem?_eq_none (Nat.le_of_not_lt hi)]
  rw [e]
  simp [VS]
end
noncomputable def ng2 : Code := cL (cL (cR (cR ngBody)))
noncomputable def ng7 : Code := cL (cR (cR (cR ngBody)))
theorem ng_code : bodyOf Tryd.f19 = .seq (cL ngBody) (.seq (cL (cR ngBody)) (.seq (.seq ng2 (.block 0 (.rangeFunc (.tmp 9) #[10, 11] (rfA ngF) (rfB ngF)))) (.seq ng7 .ret))) := by kernel_rfl
theorem ng2_code : ∃ id ty1 pos1 af1 ty2 pos2 af2, ng2 = .region id [⟨some 8, .move (.tmp 0), ty1, pos1, af1, none⟩, ⟨some 9, .makeFunc (.func 33) #[.tmp 8] #[], ty2, pos2, af2, none⟩].toArray false := ⟨_, _, _, _, _, _, _, rfl⟩
theorem ng7_code : ∃ id ty1 pos1 af1 ty2 pos2 af2, ng7 = .region id [⟨some 23, .load 33 (.tmp 5), ty1, pos1, af1, none⟩, ⟨some 4, .assign (.tmp 23), ty2, pos2, af2, none⟩].toArray false := ⟨_, _, _, _, _, _, _, rfl⟩
theorem s7_v (g : Nat) (s : ByteArray) : s7V g s fun S => (S.h = [(0, .one 9 true [XT s])] ∧ S.nx = 1 ∧ S.pn = false ∧ S.gs = []) ∧ look S.s 0 = .v (.ptr g 0) ∧ look S.s 3 = .ptr 0 0 0 0 := by
 unfold s7V
 exact ⟨⟨rfl, rfl, rfl, rfl⟩, rfl, rfl⟩
theorem s8_v (T : LTab) (g : Nat) (s : ByteArray) : s8V g s fun S => ∃ S', xown S 5 3 1 = some S' ∧ SM S' ⟨[(0, .v (.ptr g 0)), (3, .ptr 0 0 0 0), (5, .ptr 1 0 0 0)], ngRows T s 0, 3, false, []⟩ := by
 unfold s8V
 refine ⟨_, rfl, rfl, rfl, rfl, rfl, ?_⟩
 exact ⟨⟨⟨rfl, rfl⟩, rfl, trivial⟩, ⟨⟨rfl, rfl⟩, rfl, trivial⟩, ⟨⟨rfl, rfl, rfl⟩, rfl, fun j hj => absurd hj (Nat.not_lt_zero _)⟩, trivial⟩
theorem ng_fn {g : Nat} {e : TypeId} {ap : Bool} {T : LTab} {s : ByteArray} {Lc : GH} (hL : Lc g = some ⟨e, ap, toAVL (tabX T)⟩) :
  JF Tryd.prog 19 [.ptr g 0, .p (.string s)] Lc fun v L' => v = toAV (intsF (ngL T s 4)) ∧ L' = Lc := by
 intro w xs hglb hv hrows
 have s0 := sim0 (n := 24) hglb hv hrows (Nat.le_of_ble_eq_true rfl)
 refine (callsIn_wide (n := 0)).1 (callsIn_of_wp_marks Tryd.func19 rfl trivial ?_)
 show (bodyOf Tryd.f19).wpIn Fence.wide 0 Tryd.prog _ _ w
 rw [ng_code]
 refine wpIn_seq (wpIn_mono (pieceF cx0_ok (Q := fun e t' L' => e = .normal ∧ ∃ ρ S, Rel ⟨Lc, 0, []⟩ ρ S t' L' ∧ (S.h = [(0, .one 9 true [XT s])] ∧ S.nx = 1 ∧ S.pn = false ∧ S.gs = []) ∧ look S.s 0 = .v (.ptr g 0) ∧ look S.s 3 = .ptr 0 0 0 0) (via (s7V_eq g s _) (s7_v g s)) (fun i => ?_) (fun ρ S t' L' hR hk => ⟨rfl, ρ, S, hR, hk⟩) none Lc w _ w (Ext.refl _ _) s0) ?_)
 ·rw [look_put]
  by_cases e0 : i = 0
  ·rw [if_pos e0, e0]; simp [RV, tm0]
  rw [if_neg e0, look_put]
  by_cases e1 : i = 1
  ·rw [if_pos e1, e1]; simp [RV, tm0]
  rw [if_neg e1]; simp [look, RV]
 rintro ex a1 w1 ⟨t1, L1, s1, x1, rfl, ρ1, ⟨s1', h1, n1, p1, g1⟩, hR1, ⟨q1, q2, q3, q4⟩, k0, k3⟩
 dsimp only at q1 q2 q3 q4
 subst q1 q2 q3 q4
 have hR1' : Rel ⟨Lc, 0, []⟩ ρ1 ⟨[(0, .v (.ptr g 0)), (3, .ptr 0 0 0 0)], [(0, .one 9 true [XT s])], 1, false, []⟩ t1 L1 := by
  refine Rel.tms hR1 fun i => ?_
  rw [look_put]
  by_cases e0 : i = 0
  ·rw [if_pos e0, e0]; exact k0 ▸ hR1.sl 0
  rw [if_neg e0, look_put]
  by_cases e1 : i = 3
  ·rw [if_pos e1, e1]; exact k3 ▸ hR1.sl 3
  rw [if_neg e1]; simp [look, RV]
 have hJ2 : J Tryd.prog 24 (cL (cR ngBody)) (fun e t' L' => e = .normal ∧ ∃ ρ, Rel ⟨Lc, 0, []⟩ ρ ⟨[(0, .v (.ptr g 0)), (3, .ptr 0 0 0 0), (5, .ptr 1 0 0 0)], ngRows T s 0, 3, false, []⟩ t' L') t1 L1 := by
  refine (xwp_ok cx0_ok _ _ _ _ _ _ _ (via (s8V_eq g s _) (s8_v T g s)) hR1').mono ?_
  rintro ex t2 L2 ⟨ρ2, S2, hS2, hq⟩
  obtain ⟨rfl, S', hx, hq⟩ := nrm_elim hq
  obtain ⟨ρ', hR'⟩ := xown_ok hx hS2
  exact ⟨rfl, _, SM_ok hq hR'⟩
 refine wpIn_seq (wpIn_mono (hJ2 none Lc w a1 w1 x1 s1) ?_)
 rintro ex a2 w2 ⟨t2, L2, s2, x2, rfl, ρ, hR⟩
 have h0 := hR.sl 0
 have h3 := hR.sl 3
 have h5 := hR.sl 5
 change RV ρ (.v (.ptr g 0)) (t2 0) at h0
 change RV ρ (.ptr 0 0 0 0) (t2 3) at h3
 change RV ρ (.ptr 1 0 0 0) (t2 5) at h5
 simp only [RV, Nat.zero_mul, Nat.add_zero] at h0 h3 h5
 obtain ⟨gn, hn, h3⟩ := h3
 obtain ⟨go, ho, h5⟩ := h5
 refine wpIn_seq (wpIn_seq ?_)
 have hJ3 : J Tryd.prog 24 ng2 (fun e t' L' => e = .normal ∧ L' = L2 ∧ t' = TM.put (TM.put t2 8 (.ptr g 0)) 9 (.p (.func (.func 33) #[.pointer (some ⟨g, 0, none⟩)] #[]))) t2 L2 := by
  obtain ⟨id, ty1, pos1, af1, ty2, pos2, af2, hc⟩ := ng2_code
  rw [hc]
  refine J.region (JO.still (v := .ptr g 0) rfl (fun a w hs => ?_) (JO.still (v := .p (.func (.func 33) #[.pointer (some ⟨g, 0, none⟩)] #[])) rfl (fun a w hs => ?_) (JO.nil ⟨rfl, rfl, rfl⟩)))
  ·have ex := hs.ev (.tmp 0)
   rw [show ev t2 (.tmp 0) = .ptr g 0 from h0] at ex
   exact ⟨a.eval (.tmp 0), by simp [execOp], ex⟩
  ·have ex := hs.ev (.tmp 8)
   rw [show ev (t2.putO (some 8) (.ptr g 0)) (.tmp 8) = .ptr g 0 from TM.put_same t2 8 (.ptr g 0)] at ex
   simp only [VS] at ex
   exact ⟨_, by simp [execOp, Instr.makeFunc, ex]; rfl, by simp [VS]⟩
 refine wpIn_mono (hJ3 none Lc w a2 w2 x2 s2) ?_
 rintro ex a3 w3 ⟨t3, L3, s3, x3, rfl, rfl, rfl⟩
 have hR : Rel ⟨Lc, 0, []⟩ ρ ⟨[(3, .ptr 0 0 0 0), (5, .ptr 1 0 0 0)], ngRows T s 0, 3, false, []⟩ t2 L3 := Rel.tms hR fun i => by
  rw [look_put]
  by_cases e0 : i = 3
  ·rw [if_pos e0, e0]; exact hR.sl 3
  rw [if_neg e0, look_put]
  by_cases e1 : i = 5
  ·rw [if_pos e1, e1]; exact hR.sl 5
  rw [if_neg e1]; simp [look, RV]
 have e9 : a3.tmps.getD 9 undef = .func (.func 33) #[.pointer (some ⟨g, 0, none⟩)] #[] := by
  have := s3.tm 9
  rw [TM.put_same] at this
  simpa [VS] using this
 have e3 : a3.tmps.getD 3 undef = .pointer (some ⟨gn, 0, none⟩) := by
  have := s3.tm 3
  rw [TM.put_ne _ _ _ _ (by decide), TM.put_ne _ _ _ _ (by decide), h3] at this
  simpa [VS] using this
 have e5 : a3.tmps.getD 5 undef = .pointer (some ⟨go, 0, none⟩) := by
  have := s3.tm 5
  rw [TM.put_ne _ _ _ _ (by decide), TM.put_ne _ _ _ _ (by decide), h5] at this
  simpa [VS] using this
 refine wpIn_block (wpIn_rangeFunc fun fn _ => ?_)
 have ed := s3.df.1
 obtain ⟨D, hD⟩ : ∃ D, D = w3.heap.size := ⟨_, rfl⟩
 obtain ⟨rec, hrec⟩ : ∃ rec : Loop, rec = { state := .ready, pending := none, fn := fn, tmps := a3.tmps, params := #[10, 11], assign := rfA ngF, body := rfB ngF, defers := D } := ⟨_, rfl⟩
 have p1 := Push.alloc w3 (.deferred (some []))
 have p2 := Push.alloc (w3.alloc (.deferred (some []))) (.loop rec)
 have hsz : (w3.alloc (.deferred (some []))).heap.size = D + 1 := by rw [p1.heap, hD]; simp
 have rows1 := p1.rowsOb s3.rows
 have rows2 := p2.rowsOb rows1
 have ext1 := p1.ext' L3 ⟨0, .ob (.deferred (some [])), []⟩
 have ext2 := p2.ext' (upd L3 w3.heap.size ⟨0, .ob (.deferred (some [])), []⟩) ⟨0, .ob (.loop rec), []⟩
 rw [← hD] at rows1 rows2 ext1 ext2
 rw [hsz] at rows2 ext2
 have nD : L3 D = none := by rw [hD]; exact fresh_of s3.rows
 have nl : upd L3 D ⟨0, .ob (.deferred (some [])), []⟩ (D + 1) = none := by rw [← hsz]; exact fresh_of rows1
 have hFr := (hR.newF nD ⟨0, .ob (.deferred (some [])), []⟩).newF nl (rdyR rec)
 obtain ⟨FB, hFB⟩ : ∃ FB, FB = upd (upd Lc D ⟨0, .ob (.deferred (some [])), []⟩) (D + 1) (rdyR rec) := ⟨_, rfl⟩
 rw [← hFB] at hFr
 obtain ⟨L4, hL4⟩ : ∃ L4, L4 = upd (upd L3 D ⟨0, .ob (.deferred (some [])), []⟩) (D + 1) (rdyR rec) := ⟨_, rfl⟩
 rw [← hL4] at hFr
 have hFl : FB (D + 1) = some (rdyR rec) := by rw [hFB, upd_same]
 have hFD : FB D = some ⟨0, .ob (.deferred (some [])), []⟩ := by rw [hFB, upd_ne _ _ _ _ (by omega), upd_same]
 have hFc : ∀ b r, Lc b = some r → FB b = some r := by
  intro b r hb
  have hb3 := (hR.fr b r hb).1
  rw [hFB, upd_ne, upd_ne]
  ·exact hb
  ·rintro rfl; rw [nD] at hb3; cases hb3
  ·rintro rfl
   rw [upd_ne _ _ _ _ (by omega)] at nl
   rw [nl] at hb3; cases hb3
 have hI0 : ngI FB gn go T s 0 L4 := ⟨ρ, (⟨fun i => by simp [look, RV], hFr.rw, hFr.inj, hFr.nx, hFr.fr, fun h => (by cases h), by simp only [ngG, RVL, RV, Nat.zero_mul, Nat.add_zero]; exact ⟨⟨gn, hn, rfl⟩, ⟨go, ho, rfl⟩, trivial⟩⟩ : Rel ⟨FB, 0, [.ptr gn 0, .ptr go 0]⟩ ρ ⟨[], ngRows T s 0, 3, false, ngG⟩ (fun _ => .top) L4)⟩
 refine ⟨D + 1, [{ target := .collected D, args := #[] }], (w3.alloc (.deferred (some []))).alloc (.loop rec), { target := .fn (.func 33) #[], args := #[.pointer (some ⟨g, 0, none⟩), .func (.yield (D + 1)) #[] #[]] }, (w3.alloc (.deferred (some []))).alloc (.loop rec), 33, #[.pointer (some ⟨g, 0, none⟩), .func (.yield (D + 1)) #[] #[]], (w3.alloc (.deferred (some []))).alloc (.loop rec), ?_, ?_, fun _ _ => trivial, ?_, fun h => (by cases h), callsIn_wide.2 ?_⟩
 ·have := run_enterLoop_outer (P := Tryd.prog) (w := w3) fn a3.tmps #[10, 11] (rfA ngF) (rfB ngF)
  rw [hrec, hD]
  exact this
 ·have e : a3.eval (.tmp 9) = .func (.func 33) #[.pointer (some ⟨g, 0, none⟩)] #[] := e9
  have e9' : a3.tmps[9]?.getD undef = .func (.func 33) #[.pointer (some ⟨g, 0, none⟩)] #[] := by rw [← Array.getD_eq_getD_getElem?]; exact e9
  simp [resolve, rangeCall, Deferred.ofValue, Act.eval, e9']
 ·have := run_callFunc (P := Tryd.prog) (fn := Tryd.f33) Tryd.func33 rfl (by decide) #[.pointer (some ⟨g, 0, none⟩), .func (.yield (D + 1)) #[] #[]] ((w3.alloc (.deferred (some []))).alloc (.loop rec))
  exact (by rfl : (invoke (.fn (.func 33) #[]) #[.pointer (some ⟨g, 0, none⟩), .func (.yield (D + 1)) #[] #[]]) = callFunc 33 #[.pointer (some ⟨g, 0, none⟩), .func (.yield (D + 1)) #[] #[]]) ▸ this
 ·have hglb3 := s3.df.2
  have hLg : L4 g = some ⟨e, ap, toAVL (tabX T)⟩ := (hFr.fr g _ (hFc g _ hL)).1
  have HY : HYs FB gn go (D + 1) T s := fun k hk hl L hI => ng_round hrec hFl s3.size e3 e5 k hk hl L hI
  refine (lv_all HY hLg hI0 ((w3.alloc (.deferred (some []))).alloc (.loop rec)) [.pointer (some ⟨g, 0, none⟩), .func (.yield (D + 1)) #[] #[]] (by rw [hL4]; exact (hglb3.ext ext1).ext ext2) (by simp [VSL, VS]) (by rw [hL4]; exact rows2)).mono ?_
  rintro en w5 ⟨v, x, L5, rfl, -, rows5, ext5, ρ5, hR5⟩
  have hl5 : w5.heap[D + 1]? = some (.loop rec) := (rows5 _ _ (hR5.fr _ _ hFl).1).2
  have st6 := step_ob (o' := .loop { rec with state := .exhausted }) rows5 (hR5.fr _ _ hFl).1 (fun _ _ _ h => by cases h)
  have hR6 := hR5.updF hFl ⟨0, .ob (.loop { rec with state := .exhausted }), []⟩
  obtain ⟨w6, hw6⟩ : ∃ w6, w6 = w5.putObj (D + 1) (.loop { rec with state := .exhausted }) := ⟨_, rfl⟩
  obtain ⟨L6, hL6⟩ : ∃ L6, L6 = upd L5 (D + 1) ⟨0, .ob (.loop { rec with state := .exhausted }), []⟩ := ⟨_, rfl⟩
  rw [← hw6, ← hL6] at st6
  rw [← hL6] at hR6
  have hpend : rec.pending = none := by rw [hrec]
  have hend : (Instr.endLoop (D + 1)).run Tryd.prog w5 = .ok none w6 := by
   rw [hw6]
   exact (run_endLoop hl5 (by rw [hrec]; intro h; cases h)).trans (by rw [hpend])
  refine ⟨none, w6, hend, ?_⟩
  have hF6 : upd FB (D + 1) ⟨0, .ob (.loop { rec with state := .exhausted }), []⟩ D = some ⟨0, .ob (.deferred (some [])), []⟩ := by rw [upd_ne _ _ _ _ (by omega)]; exact hFD
  have hD6 : w6.heap[D]? = some (.deferred (some [])) := (st6.2 _ _ (hR6.fr _ _ hF6).1).2
  have st7 := step_ob (o' := .deferred none) st6.2 (hR6.fr _ _ hF6).1 (fun _ _ _ h => by cases h)
  have hR7 := hR6.updF hF6 ⟨0, .ob (.deferred none), []⟩
  have hgo := hR5.gh
  simp only [ngG, RVL, RV, Nat.zero_mul, Nat.add_zero] at hgo
  obtain ⟨-, ⟨go', hρ, hgo⟩, -⟩ := hgo
  injection hgo with hgo
  subst hgo
  obtain ⟨row, hrow, hrr⟩ := (hR6.rw 1 (.one 33 true [.sl 2 1 0 (lenI (ngL T s 4))]) rfl).some_g hρ
  simp only [RRow] at hrr
  obtain ⟨q1, q2, q3⟩ := hrr
  obtain ⟨b, hb, hbv⟩ : ∃ b, row.cs = [b] ∧ RV ρ5 (.sl 2 1 0 (lenI (ngL T s 4))) b := by
   obtain ⟨re, ra, rc⟩ := row
   dsimp only at q3
   match rc, q3 with
   | [b], q3 => simp only [RVL, and_true] at q3; exact ⟨b, rfl, q3⟩
   | [], q3 => simp [RVL] at q3
   | _ :: _ :: _, q3 => simp [RVL] at q3
  obtain ⟨c, fr, vs, hh, _, _, hle, hvs, hvv, _⟩ := (st6.2 go row hrow).c (by unfold Row.isc; rw [q2]; trivial)
  rw [hb] at hle hvs hvv
  obtain ⟨z, hz, hvz⟩ := hvv.get 0 b rfl
  have hcell : w6.cell? ⟨go, 0, none⟩ = some z := by
   rw [hvs, List.getElem?_take, if_pos (by simp)] at hz
   simp only [World.cell?, hh]
   simpa using hz
  obtain ⟨a6, ha6⟩ : ∃ a6 : Act, a6 = { a3 with defers := [{ target := .collected D, args := #[] }] ++ a3.defers } := ⟨_, rfl⟩
  rw [← ha6]
  obtain ⟨id, ty1, pos1, af1, ty2, pos2, af2, hc⟩ := ng7_code
  show (Code.seq ng7 .ret).wpIn Fence.wide 0 Tryd.prog _ a6 w6
  rw [hc]
  have hagg : (isAgg 33).run Tryd.prog w6 = .ok false w6 := by
   unfold isAgg
   simp only [Sem.run_bind, run_underlying (show Tryd.prog.underlying 33 = some (.slice 3) from okU_fnd tabU_ok rfl), Result.andThen_ok]
   rfl
  have e56 : a6.eval (.tmp 5) = .pointer (some ⟨go, 0, none⟩) := by rw [ha6]; exact e5
  have r1 : (execOp a6.eval ⟨some 23, .load 33 (.tmp 5), ty1, pos1, af1, none⟩).run Tryd.prog w6 = .ok (.value z) w6 := by
   simp [execOp, e56, Instr.loadAt, Instr.sureAddr, loadVar, hagg, hcell]
  have hs23 : 23 < a6.tmps.size := by rw [ha6]; show 23 < a3.tmps.size; rw [s3.size]; decide
  refine wpIn_seq (wpIn_region_lit ?_)
  unfold wpListIn
  rw [if_pos (by simp [Region.wanted])]
  refine op_in none (nd_of r1 fun d h => by cases h) ?_
  unfold Oper.wp
  rw [r1]
  simp only [Oper.upon_value]
  unfold wpListIn
  rw [if_pos (by simp [Region.wanted])]
  have e23 : (a6.put (some 23) z).eval (.tmp 23) = z := by
   show (a6.tmps.setIfInBounds 23 z).getD 23 undef = z
   simp [Array.getD_eq_getD_getElem?, hs23]
  have r2 : (execOp (a6.put (some 23) z).eval ⟨some 4, .assign (.tmp 23), ty2, pos2, af2, none⟩).run Tryd.prog w6 = .ok (.value z) w6 := by
   simp [execOp, e23]
  refine op_in none (nd_of r2 fun d h => by cases h) ?_
  unfold Oper.wp
  rw [r2]
  simp only [Oper.upon_value]
  refine wpListIn_nil ?_
  show Code.wpIn Fence.wide 0 Tryd.prog .ret _ _ w6
  refine wpIn_ret ?_
  show LeavesInM Fence.wide 0 Tryd.prog Tryd.f19 ((a6.put (some 23) z).put (some 4) z).tmps _ ((a6.put (some 23) z).put (some 4) z).defers .returning w6
  have edf : ((a6.put (some 23) z).put (some 4) z).defers = [{ target := .collected D, args := #[] }] := by
   show a6.defers = _
   rw [ha6]; show [_] ++ a3.defers = _; rw [ed]; rfl
  rw [edf]
  refine ⟨(by intro h; cases h), .inl ⟨D, _, rfl, run_takeDeferred hD6, z, ?_, ?_⟩⟩
  ·have := results_tmp (fn := Tryd.f19) (t := 4) rfl ((a6.put (some 23) z).put (some 4) z).tmps Tryd.prog (w6.putObj D (.deferred none))
   rw [this]
   congr 1
   show ((a6.tmps.setIfInBounds 23 z).setIfInBounds 4 z).getD 4 undef = z
   have : 4 < a6.tmps.size := by omega
   simp [Array.getD_eq_getD_getElem?, this]
  ·have hext : Ext Lc w (upd L6 D ⟨0, .ob (.deferred none), []⟩) (w6.putObj D (.deferred none)) := by
    have e4 : Ext L3 w3 L4 ((w3.alloc (.deferred (some []))).alloc (.loop rec)) := by rw [hL4]; exact ext1.trans ext2
    exact (((x3.trans e4).trans ext5).trans st6.1).trans st7.1
   have hdc : ∀ b, upd L6 D ⟨0, .ob (.deferred none), []⟩ b = none → Lc b = none := by
    intro b hb
    cases hLb : Lc b with
    | none => rfl
    | some r =>
     exfalso
     by_cases hbD : b = D
     ·subst hbD; rw [upd_same] at hb; cases hb
     ·rw [upd_ne _ _ _ _ hbD, hL6] at hb
      by_cases hbl : b = D + 1
      ·subst hbl; rw [upd_same] at hb; cases hb
      ·rw [upd_ne _ _ _ _ hbl] at hb
       rw [(hR5.fr b r (hFc b r hLb)).1] at hb; cases hb
   have hLc : ∀ b r, Lc b = some r → upd L6 D ⟨0, .ob (.deferred none), []⟩ b = some r := by
    intro b r hb
    have hb3 := (hR.fr b r hb).1
    rw [upd_ne, hL6, upd_ne]
    ·exact (hR5.fr b r (hFc b r hb)).1
    ·rintro rfl
     rw [upd_ne _ _ _ _ (by omega)] at nl
     rw [nl] at hb3; cases hb3
    ·rintro rfl; rw [nD] at hb3; cases hb3
   have hxd := Ext.drop (w6.putObj D (.deferred none)) hdc
   refine ⟨toAV (intsF (ngL T s 4)), z, Lc, rfl, ?_, fun b r hb => (st7.2 b r (hLc b r hb)).ext hxd rfl, hext.trans hxd, rfl, rfl⟩
   refine RX_VS hR7 st7.2 hdc ?_ (intsF (ngL T s 4)) (.sl 2 1 0 (lenI (ngL T s 4))) b z rfl ?_ hbv (VS.ext st7.1 _ _ hvz)
   ·intro id g' e' ap' n' sz' f' hf hg'
    cases hLb : Lc g' with
    | none => rfl
    | some r =>
     exfalso
     exact (hR5.fr g' r (hFc g' r hLb)).2 id (by rw [show findR (ngRows T s 4) id = some (.vec e' ap' n' sz' f') from hf]; rfl) hg'
   ·exact ⟨⟨rfl, rfl⟩, rfl, rfl, fun _ _ => rfl⟩
end Go.Proofs.YtaglpckihegmoaaDoorAv
namespace Go.Proofs.YtaglpckihegmoaaDoorAv
open Go Go.RowKit
theorem tt_okJ {P : Program} {f0 : FuncId} {fn : Func} (hf : P.funcs[f0]? = some fn) (hb : fn.body = some (bodyOf fn)) (hr : (fn.name == "runtime.NumGoroutine") = false) {C : TT}
  (h : ∀ cells rest cs v cells', C cells rest = some (cs, v, cells') → (∀ p ∈ cs, p) → ∃ cells0 rest0, pdT cells0 = true ∧ (∀ ρ bs, RVL ρ cells bs → ∀ L w zs, VSL L w bs zs → VSL L w (toAVL cells0) zs) ∧ pdL rest = true ∧ pdL rest0 = true ∧ (∀ L w zs, VSL L w (toAVL rest) zs → VSL L w (toAVL rest0) zs) ∧ v.pd = true ∧ pdT cells' = true ∧ ∀ (e : TypeId) (ap : Bool) g (L : GH), L g = some ⟨e, ap, toAVL cells0⟩ → JF P f0 (.ptr g 0 :: toAVL rest0) L fun b L1 => b = toAV v ∧ L1 = upd L g ⟨e, ap, toAVL cells'⟩) : ITok P f0 (itT C) := by
 refine ⟨⟨fn, _, hf, hb, hr⟩, fun args S K hT F ρ t L bs hR0 ha => ?_⟩
 unfold itT at hT
 split at hT
 case h_2 => exact hT.elim
 rename_i id rest
 split at hT
 case h_2 => exact hT.elim
 rename_i e ap cells hq
 split at hT
 case h_2 => exact hT.elim
 rename_i cs v cells' hC
 obtain ⟨hc, hK⟩ := andK_all _ _ hT
 have hR := hR0.pl
 obtain ⟨b0, bs', rfl⟩ : ∃ b0 bs', bs = b0 :: bs' := by
  cases bs with
  | nil => simp [RVL] at ha
  | cons b l => exact ⟨b, l, rfl⟩
 simp only [RVL] at ha
 obtain ⟨ha0, ha⟩ := ha
 simp only [RV] at ha0
 obtain ⟨g, hid, rfl⟩ := ha0
 obtain ⟨row, hL, hrow⟩ := (hR.rw id _ hq).some_g hid
 simp only [RRow] at hrow
 obtain ⟨q1, q2, q3⟩ := hrow
 obtain ⟨cells0, rest0, p1, p2, p3, p4, p5, p6, p7, h6⟩ := h _ _ _ _ _ hC hc
 have hbs := RVL.pd _ _ p3 ha
 subst hbs
 have hd : ∀ b, L b = none → upd L g ⟨e, ap, toAVL cells0⟩ b = none := by
  intro b hb
  rw [upd_ne]
  ·exact hb
  ·rintro rfl; rw [hL] at hb; cases hb
 have hJ : JF P f0 (.ptr g 0 :: toAVL rest0) (upd L g ⟨e, ap, toAVL cells0⟩) fun v L' => ∃ ρ' S' t' xv, Rel F ρ' S' t' L' ∧ RV ρ' xv v ∧ K xv S' := by
  refine (h6 e ap g _ (upd_same _ _ _)).mono ?_
  rintro b L1 ⟨rfl, rfl⟩
  rw [show upd (upd L g ⟨e, ap, toAVL cells0⟩) g ⟨e, ap, toAVL cells'⟩ = upd L g ⟨e, ap, toAVL cells'⟩ from by funext b'; simp only [upd]; split <;> rfl]
  exact ⟨ρ, _, t, v, Rel.wr hR (by show (findR (plH S.h) id).isSome = true; rw [hq]; rfl) hid (r := .one e ap cells') (row := ⟨e, ap, toAVL cells'⟩) (by simp only [RRow]; exact ⟨trivial, trivial, pdT_RVL ρ _ p7⟩) (fun _ _ _ _ => ⟨_, _, _, rfl⟩), pd_RV ρ v p6, hK⟩
 have hJ' : JF P f0 (.ptr g 0 :: toAVL rest) L fun v L' => ∃ ρ' S' t' xv, Rel F ρ' S' t' L' ∧ RV ρ' xv v ∧ K xv S' := by
  refine JF.retell hJ hd fun w xs hw hv => ?_
  have hx := Ext.drop w hd
  refine ⟨fun b r hb => ?_, ?_⟩
  ·by_cases hbg : b = g
   ·subst hbg
    rw [upd_same] at hb
    obtain rfl := Option.some.inj hb
    obtain ⟨c, fr, vs, hh, ha, hfz, hle, hvs, hv, h1⟩ := (hw b row hL).c (by unfold Row.isc; rw [q2]; trivial)
    have hv2 := VSL.ext hx _ _ (p2 _ _ q3 _ _ _ hv)
    have hlen : (toAVL cells0).length = row.cs.length := by rw [hv2.length, ← hv.length]
    exact ⟨c, fr, vs, by rw [← q1]; exact hh, fun h => ha (by rw [q2]; exact h), hfz, by rw [hlen]; exact hle, by rw [hlen]; exact hvs, hv2, h1⟩
   ·rw [upd_ne _ _ _ _ hbg] at hb
    exact (hw b r hb).ext hx rfl
  ·cases xs with
   | nil => simp [VSL] at hv
   | cons x xs =>
    simp only [VSL] at hv ⊢
    exact ⟨VS.ext hx _ _ hv.1, VSL.ext hx _ _ (p5 L w xs hv.2)⟩
 simpa using hJ'
theorem TT1_okJ {P : Program} {f : FuncId} {fn : Func} (hf : P.funcs[f]? = some fn) (hb : fn.body = some (bodyOf fn)) (hr : (fn.name == "runtime.NumGoroutine") = false) {α β : Type} {d : DcT α} {e : Dc β} {cs : α → β → List Prop} {v : α → β → XV} {o : α → β → α} (hd : DcTOk d) (he : DcOk e) (hp : ∀ a b, (v a b).pd = true)
  (h : ∀ a b, (∀ p ∈ cs a b, p) → ∀ (t : TypeId) (ap : Bool) g (L : GH), L g = some ⟨t, ap, toAVL (d.enc a)⟩ → JF P f [.ptr g 0, toAV (e.enc b)] L fun x L1 => x = toAV (v a b) ∧ L1 = upd L g ⟨t, ap, toAVL (d.enc (o a b))⟩) : ITok P f (itT (TT1 d e cs v o)) := tt_okJ hf hb hr fun cells rest cs' v' o' hH hc => by
 unfold TT1 at hH
 split at hH
 ·split at hH
  ·rename_i x p a q b hx hy
   simp only [Option.some.injEq, Prod.mk.injEq] at hH
   obtain ⟨rfl, rfl, rfl⟩ := hH
   obtain ⟨k1, k2, k3⟩ := he _ q b hy (allL (allR hc))
   refine ⟨d.enc a, [e.enc b], hd.1 a, hd.2 _ p a hx (allL hc), by simp [pdL, k1], by simp [pdL, k2], fun L w zs hz => ?_, hp a b, hd.1 _, h a b (allR (allR hc))⟩
   match zs, hz with
   | [z], hz => simp only [toAVL, VSL] at hz ⊢; exact ⟨k3 L w z hz.1, trivial⟩
   | [], hz => simp [toAVL, VSL] at hz
   | _ :: _ :: _, hz => simp [toAVL, VSL] at hz
  ·cases hH
 ·cases hH
theorem ng_ok : ITok Tryd.prog 19 (itT ngC) := TT1_okJ Tryd.func19 rfl (by decide) dTab_ok dStr_eq.ok (fun _ _ => rfl) fun T s hc t ap g L hL => (ng_fn (s := s) hL).mono fun v L' h => ⟨h.1, by
 rw [h.2]
 funext b
 by_cases e : b = g
 ·subst e; rw [upd_same]; exact hL
 ·rw [upd_ne _ _ _ _ e]⟩
theorem nb_ok : CTok Tryd.prog 6 (C2 dClls dStr (fun q _ => [∀ j, j < q.n → (q.g j).k.dom.n ≤ 4611686018427387904]) fun _ _ => XB true) := nbs_ok ng_ok
end Go.Proofs.YtaglpckihegmoaaDoorAv
namespace Go.Proofs.YtaglpckihegmoaaDoorAv
open Go Go.RowKit Go.ChangeShapes Go.WideShapes
def Cll.Fit (c : Cll) : Prop := (Lit.int .i64 c.kind).wf = true ∧ (Lit.int .i64 c.n).wf = true ∧ c.k.Fit
theorem open_cll : Opens Tryd.prog 51 9 fun xs => ∃ c : Cll, xs = cllX c ∧ c.Fit :=
 (opens_struct Tryd.underlying51 (by kernel_rfl) [(1, fun xs => ∃ n, xs = [XI n] ∧ (Lit.int .i64 n).wf = true), (1, fun xs => ∃ n, xs = [XI n] ∧ (Lit.int .i64 n).wf = true), (7, fun xs => ∃ l : Lnk, xs = lnkX l ∧ l.Fit)] rfl rfl fun i c hi => by
  match i, hi with
  | 0, hi => obtain rfl := Option.some.inj hi; exact ⟨_, rfl, rfl, by kernel_rfl, opens_int Tryd.underlying3⟩
  | 1, hi => obtain rfl := Option.some.inj hi; exact ⟨_, rfl, rfl, by kernel_rfl, opens_int Tryd.underlying3⟩
  | 2, hi => obtain rfl := Option.some.inj hi; exact ⟨_, rfl, rfl, by kernel_rfl, open_lnk⟩
  | i + 3, hi => simp at hi).mono fun xs ⟨ys, e, h⟩ => by
  cases h with
  | cons h1 h => cases h with
   | cons h2 h => cases h with
    | cons h3 h => cases h with
     | nil =>
      obtain ⟨⟨a, rfl, a1⟩, -⟩ := h1
      obtain ⟨⟨b, rfl, b1⟩, -⟩ := h2
      obtain ⟨⟨c, rfl, c1⟩, -⟩ := h3
      exact ⟨⟨a, b, c⟩, e, a1, b1, c1⟩
theorem open_clls : Opens Tryd.prog 48 1 fun xs => ∃ q : Sq Cll, xs = [.fz q.n 9 fun i => cllX (q.g i)] ∧ q.n * 112 ≤ 140737488351232 ∧ ∀ i, i < q.n → (q.g i).Fit :=
 opens_slice cllX Cll.Fit ⟨0, 0, ⟨false, 0, ⟨0, fun _ => ⟨#[]⟩⟩, false, false, ⟨0, fun _ => []⟩, ⟨0, fun _ => lclX ⟨fun _ => 0, false, false⟩⟩⟩⟩ Tryd.underlying48 (by kernel_rfl) (by decide) (by kernel_rfl) open_cll
theorem open_cllsA {H : Type} {enc : TypeId × Value → H} {W : World} {r : Reach} {b0 : Nat} {v : Value} {d : DataW H} {p : List MemPlace} {ts : List TypeId} {ds : List (DataW H)} (j : Nat)
  (hval : Value.okWide Tryd.prog W r b0 48 v) (h : DataW.Trod enc Tryd.prog W 0 (fun _ => true) true 48 v d p) (hsz : (DataW.weightsEach Tryd.prog ts ds).all (· ≤ reachBytes) = true) (htj : ts[j]? = some 48) (hdj : ds[j]? = some d) :
  ∃ q : Sq Cll, VS noL W (toAV (.fz q.n 9 fun i => cllX (q.g i))) v ∧ q.n ≤ 1466015503658 ∧ ∀ i, i < q.n → (q.g i).Fit := by
 have hv : v.cells = #[v] := by
  obtain ⟨a, len, cap, rfl⟩ := okWide_slice Tryd.underlying48 hval
  rfl
 obtain ⟨x, ⟨q, e, h1, h2⟩, hx⟩ := open_clls.argS hv h hsz htj hdj
 obtain rfl : x = _ := (List.cons.inj e).1
 exact ⟨q, hx, by omega, h2⟩
theorem linkNeighbours_J (L : GH) (q : Sq Cll) (s : ByteArray) (hn : q.n ≤ 1466015503658) (hq : ∀ i, i < q.n → (q.g i).Fit) (hs : s.size ≤ 140737488351232) : JF Tryd.prog 6 [toAV (.fz q.n 9 fun i => cllX (q.g i)), strAV s] L (fun v L' => v = boolAV true ∧ L' = L) := by
 refine law_J nb_ok (xs := [.fz q.n 9 fun i => cllX (q.g i), XT s]) (cs := _) rfl ?_ ?_ L
 ·intro p hp
  rcases List.mem_cons.1 (show p ∈ [_, _] from hp) with rfl | hp
  ·exact fun i _ => rfl
  ·obtain rfl := List.mem_singleton.1 hp
   exact fun j hj => Nat.le_trans (hq j hj).2.2.1 (by decide)
 ·simp only [RVL]
  exact ⟨by simp [RV], by simp [RV, strAV], trivial⟩
end Go.Proofs.YtaglpckihegmoaaDoorAv
