/-
  VEX, part Q: the statement 'for .. range f', and the evaluator.
-/
import Derived.Test.YtkfnokgfgcfldaaGreatVexP
set_option linter.unusedSimpArgs false
set_option linter.unusedVariables false
namespace Go.Vex
open Go.RowKit (Below)

section
variable {P : Program} {T : TT} {h : Hp}

/-- what comes behind the function that was ranged over -/
def overK (P : Program) (ro : Option Nat) (l : Nat) (s : St) (K : XK) : V → Hp → Prop := fun _ h =>
  ∃ pe h', loopTo l toOver h = some (pe, h') ∧ match pe with
    | none => K .normal s h'
    | some c => XWp P ro c K s h'

theorem rangeFunc_core {F : FTab} (hF : FOK P F) {ro : Option Nat} {g : Operand} {ps : Array Tmp} {as bd : Code} {K : XK} {s s' : St} {f : Nat} {fn : Func} {first cap : List V}
    (hg : s.ev g = some (.fn (.func f) first cap)) (hf : F f = some fn) {B : Nat} {ρ : Env} {w : World} {a : Act} {h1 : Hp} {l : Nat} {mark : List Deferred}
    (hr : ∀ l, ro = some l → l < h.next) (hl : l < h1.next) (ht : TRel h.next ρ s a) (hN : h.next ≤ h1.next)
    (hent' : ∀ fid, ∃ ρ2 : Env, ∃ w2 : World, (Instr.enterLoop fid a.tmps ps as bd (fen ρ ro).round).run P w = .ok ((ρ2 l).blk, mark) w2 ∧ Ext h.next ρ ρ2 ∧ Sat B ρ2 h1 w2 ∧ Below B w w2 ∧ TRel h1.next ρ2 s' { a with defers := mark ++ a.defers })
    (hc : XCalls P f (first ++ [.yld l] ++ cap) h1 (overK P ro l s' K)) : (Code.rangeFunc g ps as bd).wpIn (fen ρ ro) 0 P (Post B w h.next ρ K) a w := by
  refine wpIn_rangeFunc fun fid _ => ?_
  obtain ⟨ρ2, w2, he, hX2, hs2, hB2, ht2⟩ := hent' fid
  obtain ⟨_, us, cs, e1, e2, e3⟩ := ht.ev g _ hg
  refine ⟨(ρ2 l).blk, mark, w2, { target := .fn (.func f) cs, args := us ++ #[.func (.yield (ρ2 l).blk) #[] #[]] }, w2, f, us ++ #[.func (.yield (ρ2 l).blk) #[] #[]] ++ cs, w2, he, ?_, fun f' _ => fen_fn _ _ _, ?_, (fun h => by cases h), ?_⟩
  · have hm : (#[Operand.const (.func (.yield (ρ2 l).blk) #[] #[])] : Array Operand).map a.eval = #[.func (.yield (ρ2 l).blk) #[] #[]] := by simp [Act.eval]
    simp only [resolve, rangeCall, hm, e1, Deferred.ofValue, Sem.run_pure]
  · simp only [invoke]; exact run_callFunc hF hf _ _
  · have hcall := hc B ρ2 w2 (us ++ #[.func (.yield (ρ2 l).blk) #[] #[]] ++ cs) hs2 (by
      simp only [Array.toList_append]
      obtain ⟨_, us', cs', e1', e2', e3'⟩ := (VR.ext hN hX2 (ht.ev g _ hg) : VR h1.next ρ2 (.fn (.func f) first cap) (a.eval g))
      rw [e1] at e1'
      cases e1'
      exact (VRs.append (VRs.append e2' ⟨_, [], rfl, ⟨hl, rfl⟩, rfl⟩) e3'))
    refine CallsIn.mono (show CallsIn (fen ρ ro) 0 P f _ w2 _ from hcall) fun e w3 hp => ?_
    obtain ⟨z, rfl, v, ρ3, h3, n3, x3, s3, v3, b3, pe, h4, hto, hk⟩ := hp
    obtain ⟨r, st', pe', g1, g2, g3, g4, g5, g6⟩ := loopTo_sound s3 hto
    have hblk : (ρ3 l).blk = (ρ2 l).blk := by rw [x3 l hl]
    rw [hblk] at g1 g5 g6
    have hst : r.state ≠ .busy ∧ st' = .exhausted ∧ pe' = pe := by
      unfold toOver at g3
      split at g3
      · cases g3
      · rename_i hno; cases g3; exact ⟨hno, rfl, rfl⟩
    obtain ⟨hnb, rfl, rfl⟩ := hst
    have hend := run_endLoop (P := P) g1 hnb
    rw [g2] at hend
    have hN4 : h.next ≤ h4.next := by rw [g4]; exact Nat.le_trans hN n3
    have hX4 : Ext h.next ρ ρ3 := hX2.trans x3 hN
    have ht4 : TRel h4.next ρ3 s' { a with defers := mark ++ a.defers } := by rw [g4]; exact ht2.ext n3 x3
    refine ⟨pe', _, hend, ?_⟩
    cases pe' with
    | none => exact ⟨ρ3, s', h4, hN4, hX4, g5, ht4, hB2.trans (b3.trans g6), hk⟩
    | some c =>
      have hr4 : ∀ l, ro = some l → l < h4.next := fun l hl => Nat.lt_of_lt_of_le (hr l hl) hN4
      have := hk B ρ3 _ _ hr4 g5 ht4
      rw [fen_ext hX4 hr] at this
      exact wpIn_mono this fun _ _ _ hp => hp.later hN4 hX4 (hB2.trans (b3.trans g6))

/-- AT AN OUTERMOST LOOP -/
theorem XWp.rangeFunc {F : FTab} (hF : FOK P F) {g : Operand} {ps : Array Tmp} {as bd : Code} {K : XK} {s : St} {f : Nat} {fn : Func} {first cap : List V}
    (hg : s.ev g = some (.fn (.func f) first cap)) (hf : F f = some fn)
    (hc : XCalls P f (first ++ [.yld (h.next + 1)] ++ cap) ((h.alloc (.dfr true)).alloc (.loop .ready none s.tr s.sz ps.toList as bd h.next)) (overK P none (h.next + 1) ⟨s.tr, s.sz, h.next :: s.dfs⟩ K)) : XWp P none (.rangeFunc g ps as bd) K s h := by
  intro B ρ w a hr hs ht
  refine rangeFunc_core (l := h.next + 1) (s' := ⟨s.tr, s.sz, h.next :: s.dfs⟩) (mark := [{ target := .collected w.heap.size, args := #[] }]) (h1 := (h.alloc (.dfr true)).alloc (.loop .ready none s.tr s.sz ps.toList as bd h.next)) hF hg hf hr (Nat.lt_succ_self _) ht (Nat.le_trans (Nat.le_succ _) (Nat.le_succ _)) (fun fid => ?_) hc
  have hx1 := Env.ext_put ρ h.next ⟨w.heap.size, 0, 0, 1⟩
  have hs1 : Sat B (Env.put ρ h.next ⟨w.heap.size, 0, 0, 1⟩) (h.alloc (.dfr true)) (w.alloc (.deferred (some []))) := hs.newB _ _ ⟨hs.base, by simp only [if_true]; exact World.alloc_heap_new _ _⟩
  have hx2 := Env.ext_put (Env.put ρ h.next ⟨w.heap.size, 0, 0, 1⟩) (h.next + 1) ⟨(w.alloc (.deferred (some []))).heap.size, 0, 0, 1⟩
  have hX : Ext h.next ρ (Env.put (Env.put ρ h.next ⟨w.heap.size, 0, 0, 1⟩) (h.next + 1) ⟨(w.alloc (.deferred (some []))).heap.size, 0, 0, 1⟩) := hx1.trans hx2 (Nat.le_succ _)
  have hd : (Env.put (Env.put ρ h.next ⟨w.heap.size, 0, 0, 1⟩) (h.next + 1) ⟨(w.alloc (.deferred (some []))).heap.size, 0, 0, 1⟩) h.next = ⟨w.heap.size, 0, 0, 1⟩ := by
    rw [hx2 _ (Nat.lt_succ_self _), Env.put_same]
  have ht1 : TRel (h.next + 1 + 1) (Env.put (Env.put ρ h.next ⟨w.heap.size, 0, 0, 1⟩) (h.next + 1) ⟨(w.alloc (.deferred (some []))).heap.size, 0, 0, 1⟩) s a := ht.ext (Nat.le_trans (Nat.le_succ _) (Nat.le_succ _)) hX
  have hb1 : Below B w (w.alloc (.deferred (some []))) := Below.alloc' w _ hs.base
  refine ⟨Env.put (Env.put ρ h.next ⟨w.heap.size, 0, 0, 1⟩) (h.next + 1) ⟨(w.alloc (.deferred (some []))).heap.size, 0, 0, 1⟩, _, ?_, hX, ?_, hb1.trans (Below.alloc' _ (.loop { state := .ready, pending := none, fn := fid, tmps := a.tmps, params := ps, assign := as, body := bd, defers := w.heap.size }) hs1.base), ?_⟩
  · rw [Env.put_same]
    simp only [World.size_alloc]
    exact run_enterLoop_outer fid a.tmps ps as bd
  · refine hs1.newB _ _ ⟨hs1.base, Nat.lt_succ_of_lt (Nat.lt_succ_self _), fid, a.tmps, ?_, ht1.1, ht1.2.1⟩
    rw [show ((h.alloc (.dfr true)).next) = h.next + 1 from rfl, hd]
    exact World.alloc_heap_new _ _
  · refine ⟨ht1.1, ht1.2.1, fun d hd' => ?_, ?_⟩
    · rcases List.mem_cons.1 hd' with rfl | hd'
      · exact Nat.lt_succ_of_lt (Nat.lt_succ_self _)
      · exact ht1.2.2.1 d hd'
    · simp only [List.map_cons, hd, List.singleton_append]
      rw [ht1.2.2.2]

/-- WITHIN A ROUND of another such loop -/
theorem XWp.rangeFuncIn {F : FTab} (hF : FOK P F) {r : Nat} {g : Operand} {ps : Array Tmp} {as bd : Code} {K : XK} {s : St} {f : Nat} {fn : Func} {first cap : List V}
    (hg : s.ev g = some (.fn (.func f) first cap)) (hf : F f = some fn) {st : LoopState} {pe : Option Code} {tm : Tm} {sz : Nat} {ps' : List Nat} {as' bd' : Code} {d : Nat} (hl : h.get r = some (.loop st pe tm sz ps' as' bd' d))
    (hc : XCalls P f (first ++ [.yld h.next] ++ cap) (h.alloc (.loop .ready none s.tr s.sz ps.toList as bd d)) (overK P (some r) h.next s K)) : XWp P (some r) (.rangeFunc g ps as bd) K s h := by
  intro B ρ w a hr hs ht
  obtain ⟨hrN, hb, hd, fn', ts, hw, hsz, hts⟩ := hs.obj r _ hl
  refine rangeFunc_core (l := h.next) (s' := s) (mark := []) (h1 := h.alloc (.loop .ready none s.tr s.sz ps.toList as bd d)) hF hg hf hr (Nat.lt_succ_self _) ht (Nat.le_succ _) (fun fid => ?_) hc
  have hX := Env.ext_put ρ h.next ⟨w.heap.size, 0, 0, 1⟩
  have ht1 : TRel (h.next + 1) (Env.put ρ h.next ⟨w.heap.size, 0, 0, 1⟩) s a := ht.ext (Nat.le_succ _) hX
  refine ⟨Env.put ρ h.next ⟨w.heap.size, 0, 0, 1⟩, w.alloc (.loop { state := .ready, pending := none, fn := fid, tmps := a.tmps, params := ps, assign := as, body := bd, defers := (ρ d).blk }), ?_, hX, ?_, Below.alloc' w _ hs.base, ht1⟩
  · rw [Env.put_same]
    show (Instr.enterLoop fid a.tmps ps as bd (some (ρ r).blk)).run P w = _
    unfold Instr.enterLoop
    simp only [Sem.run_bind, run_getLoop hw, run_newObj_alloc, Result.andThen, Sem.run_pure]
  · refine hs.newB _ _ ⟨hs.base, Nat.lt_succ_of_lt hd, fid, a.tmps, ?_, ht1.1, ht1.2.1⟩
    rw [hX d hd]
    exact World.alloc_heap_new _ _

end
end Go.Vex
