/-
  VEX, part T: from the abstract call to the kit's own.
-/
import Derived.Test.YtkfnokgfgcfldaaGreatVexS
import Derived.WalkKit
import Derived.ProofKit
import Derived.OpenShut
import Derived.Carry
set_option linter.unusedSimpArgs false
set_option linter.unusedVariables false
namespace Go.Vex
open Go.RowKit (Below)

/-- the heap that knows of nothing -/
theorem Sat.none (W : World) (ρ : Env) : Sat W.heap.size ρ ⟨.nil, 0⟩ W :=
  ⟨fun i o h => by simp [Hp.get, Tr.get] at h, fun i j o p h => by simp [Hp.get, Tr.get] at h, Nat.le_refl _⟩

theorem XCalls.true' {P : Program} {f : FuncId} {vs : List V} {h : Hp} {args : Array Value} {W : World} {ρ : Env} (hs : Sat W.heap.size ρ h W) (hv : VRs h.next ρ vs args.toList)
    (hx : XCalls P f vs h fun v _ => v = .bool true) : Calls P f args W fun e W' => e = .returned (.bool true) ∧ Below W.heap.size W W' := by
  rw [← callsIn_wide (n := 0)]
  refine (hx _ ρ W args hs hv).mono fun e w' hp => ?_
  obtain ⟨z, rfl, v, ρ', h', _, _, _, hz, hb, rfl⟩ := hp
  exact ⟨by rw [show z = _ from hz], hb⟩

def isT : V → Hp → Bool := fun v _ => match v with | .bool b => b | _ => false

theorem isT_spec {v : V} {h : Hp} (hv : isT v h = true) : v = .bool true := by
  cases v <;> simp [isT] at hv ⊢
  exact hv

def h0 : Hp := ⟨.nil, 0⟩

/-! ### what was there reads as it did -/

section
open Go.ChangeShapes Go.WideShapes Go.ChangeAt Go.RowKit
variable {H : Type} {enc : TypeId × Value → H} {P : Program}

theorem trodAll_stays (hl : laidOutB P = true) {W W' : World} (hb : Below W.heap.size W W') {sp : Nat → Bool} : ∀ {ts : List TypeId} {vs : List Value} {ds : List (DataW H)} {ps : List MemPlace},
    (∀ t ∈ ts, P.readableRec t = true ∧ t < P.types.size) → DataW.TrodAll enc P W 0 (fun _ => true) true ts vs ds ps → (∀ x ∈ ps, x.block < W.heap.size) → (∀ x ∈ ps, sp x.block = true) → DataW.TrodAll enc P W' 0 sp true ts vs ds ps
  | [], vs, ds, ps, _, h, _, _ => by
    obtain ⟨rfl, rfl, rfl⟩ := trodAll_nil h
    exact trodAll_mk0
  | t :: ts, vs, ds, ps, ht, h, hlt, hsp => by
    obtain ⟨v, vs', d, ds', p, q, rfl, rfl, rfl, h1, h2⟩ := trodAll_cons h
    obtain ⟨hr, hrow⟩ := ht t List.mem_cons_self
    refine trodAll_cons_mk (WideElems.Trod_stays hl hr hrow h1 (fun x hx => hb.same (hlt x (List.mem_append_left _ hx))) (fun x hx => hsp x (List.mem_append_left _ hx))) ?_
    exact trodAll_stays hl hb (fun t' ht' => ht t' (List.mem_cons_of_mem _ ht')) h2 (fun x hx => hlt x (List.mem_append_right _ hx)) (fun x hx => hsp x (List.mem_append_right _ hx))

/-- A LAW's end: true, and what was there is as it was. -/
theorem post_true {f : Func} {s : ChangeSpec} {W W' : World} {args : Array Value} {ds gs : List (DataW H)} {before : List MemPlace} {tb : TypeId} (hl : laidOutB P = true)
    (hW : DataW.Whole enc P f.params.toList s.vars false W args.toList ds gs before) (hb : Below W.heap.size W W') (hv : s.vars = [])
    (hfn : ∀ gs, gs = [] → s.fn H (ds ++ gs) = { results := [.lit (.bool true)], args := ds }) (hr : f.resultTypes = #[tb]) (htb : P.underlying tb = some .bool) (hts : ∀ t ∈ f.params.toList, P.readableRec t = true ∧ t < P.types.size) :
    s.post enc P f false true false false W args (.bool true) W' := by
  have hlt := fun p hp => hW.lt p hp
  have hW0 := hW
  obtain ⟨p, q, hA, hV, rfl, hfz, hnd⟩ := hW
  rw [hv] at hV
  obtain ⟨rfl, rfl⟩ := trodVars_none hV
  simp only [List.append_nil] at hlt
  have hres : ∀ (b : Nat) (sp : Nat → Bool) (hd : Bool), DataW.TrodAll enc P W' b sp hd f.resultTypes.toList ((Value.bool true).resultList f.resultTypes.size) (s.fn H (ds ++ [])).results [] := by
    intro b sp hd
    rw [hfn [] rfl, hr]
    exact trodAll_cons_mk (shut_bool htb _) trodAll_mk0
  have hargs : ∀ sp : Nat → Bool, (∀ x ∈ p, sp x.block = true) → DataW.TrodAll enc P W' 0 sp true f.params.toList args.toList (s.fn H (ds ++ [])).args p := by
    intro sp hsp
    rw [hfn [] rfl]
    exact trodAll_stays hl hb hts hA hlt hsp
  have hvars : ∀ sp : Nat → Bool, DataW.TrodVars enc P W' sp s.vars (s.fn H (ds ++ [])).vars [] := by
    intro sp
    rw [hfn [] rfl, hv]
    rfl
  have hold : ∀ x ∈ p, (fun b => decide (b < W.heap.size)) x.block = true := fun x hx => by simpa using hlt x hx
  refine ⟨ds, [], p ++ [], [], p, [], hW0, hres _ _ _, hargs _ hold, hvars _, World.keptBut_mono (fun x hx => ⟨hx, ?_⟩) (hb.frame (· ∈ p ++ [])), fun h => ?_⟩
  · right; left; simpa using hx
  · cases h
end

/-! ### structs of plain cells, opened -/

section
open Go.ChangeShapes Go.WideShapes Go.ChangeAt Go.RowKit
variable {P : Program}

theorem open_flat {W : World} {r : Reach} {b0 : Nat} {t : TypeId} {v : Value} {fs : Array Field} {ts : List TypeId} (ht : P.underlying t = some (.struct fs)) (hts : P.cellTypes P.depth t = some ts) (hn : P.cellsOf t = ts.length)
    (hval : Value.okWide P W r b0 t v) : ∃ cs : Array Value, v = .agg cs ∧ cs.size = ts.length ∧ ∀ (i : Nat) (u : TypeId), ts[i]? = some u → ∃ x, cs[i]? = some x ∧ Cell.okWide P W r b0 u x := by
  unfold Value.okWide at hval
  rw [ht] at hval
  obtain ⟨cs, rfl, hsz, ts', h1, _, h2⟩ := hval
  rw [hts] at h1
  cases h1
  refine ⟨cs, rfl, hsz.trans hn, fun i u hi => ?_⟩
  have hlt : i < ts.length := (List.getElem?_eq_some_iff.1 hi).1
  have hlt' : i < cs.size := by rw [hsz, hn]; exact hlt
  refine ⟨cs[i], Array.getElem?_eq_getElem hlt', ?_⟩
  obtain ⟨u', hu, hc⟩ := h2 i cs[i] (Array.getElem?_eq_getElem hlt')
  rw [Nat.mod_eq_of_lt hlt, hi] at hu
  cases hu
  exact hc

theorem arr_of {cs : Array Value} {l : List Value} (hs : cs.size = l.length) (h : ∀ (i : Nat) (x : Value), l[i]? = some x → cs[i]? = some x) : cs = l.toArray := by
  apply Array.ext'
  apply List.ext_getElem?
  intro i
  simp only [Array.getElem?_toList]
  cases hl : l[i]? with
  | some x => exact h i x hl
  | none =>
    rw [List.getElem?_eq_none_iff] at hl
    exact Array.getElem?_eq_none (by omega)

theorem cell_int {W : World} {r : Reach} {b0 : Nat} {u : TypeId} {k : IntKind} {x : Value} (hu : P.underlying u = some (.int k)) (h : Cell.okWide P W r b0 u x) : ∃ n, x = .int k n :=
  okWide_int hu (show Value.okWide P W r b0 u x by unfold Value.okWide; rw [hu]; exact h)

theorem cell_bool {W : World} {r : Reach} {b0 : Nat} {u : TypeId} {x : Value} (hu : P.underlying u = some .bool) (h : Cell.okWide P W r b0 u x) : ∃ b, x = .bool b :=
  okWide_bool hu (show Value.okWide P W r b0 u x by unfold Value.okWide; rw [hu]; exact h)

theorem cell_string {W : World} {r : Reach} {b0 : Nat} {u : TypeId} {x : Value} (hu : P.underlying u = some .string) (h : Cell.okWide P W r b0 u x) : ∃ b, x = .string b :=
  okWide_string hu (show Value.okWide P W r b0 u x by unfold Value.okWide; rw [hu]; exact h)
end
end Go.Vex
