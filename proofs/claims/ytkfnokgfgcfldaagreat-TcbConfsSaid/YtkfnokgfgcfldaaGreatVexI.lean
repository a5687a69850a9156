/-
  VEX, part I: iterators over maps, make, append, a string's bytes.
-/
import Derived.Test.YtkfnokgfgcfldaaGreatVexH
set_option linter.unusedSimpArgs false
set_option linter.unusedVariables false
namespace Go.Vex
open Go.RowKit (Below)

section
variable {P : Program} {T : TT} {B : Nat} {ρ : Env} {h : Hp} {w : World}

/-- a new block that is no row of cells -/
theorem Sat.newB (s : Sat B ρ h w) (ob : Obj) (o : O) (ho : OSat (h.next + 1) (Env.put ρ h.next ⟨w.heap.size, 0, 0, 1⟩) B (w.alloc ob) ⟨w.heap.size, 0, 0, 1⟩ o) :
    Sat B (Env.put ρ h.next ⟨w.heap.size, 0, 0, 1⟩) (h.alloc o) (w.alloc ob) := by
  refine s.alloc ⟨w.heap.size, 0, 0, 1⟩ (by simp) (fun k hk _ => Below.heap_alloc w _ k hk) (fun j p hj _ => ?_) s.base ho
  have := (s.obj j p hj).2.lt
  simp only
  omega

/-! ### make(map) -/

def xmakeMap (T : TT) (h : Hp) (t : TypeId) (hint : Option V) : Option (V × Hp) :=
  match T t, hint with
  | some ti, none => some (.map (some h.next), h.alloc (.map [] 0))
  | some ti, some (.int _ _) => match ti.d with
    | .map _ _ => some (.map (some h.next), h.alloc (.map [] 0))
    | _ => none
  | _, _ => none

theorem xmakeMap_sound (hT : TTok P T) (s : Sat B ρ h w) {t : TypeId} {hint : Option V} {hu : Option Value} {r : V} {h' : Hp} (hh : OptR h.next ρ hint hu) (hr : xmakeMap T h t hint = some (r, h')) :
    ∃ z w' ρ', (Instr.makeMap t hu).run P w = .ok z w' ∧ Ext h.next ρ ρ' ∧ h.next ≤ h'.next ∧ Sat B ρ' h' w' ∧ VR h'.next ρ' r z ∧ Below B w w' := by
  have key : Sat B (Env.put ρ h.next ⟨w.heap.size, 0, 0, 1⟩) (h.alloc (.map [] 0)) (w.alloc (.map #[] 0)) :=
    s.newB _ _ ⟨s.base, #[], heap_push w _, rfl⟩
  have hv : VR (h.alloc (.map [] 0)).next (Env.put ρ h.next ⟨w.heap.size, 0, 0, 1⟩) (.map (some h.next)) (.map (some w.heap.size)) := ⟨Nat.lt_succ_self _, by rw [Env.put_same]⟩
  unfold xmakeMap at hr
  split at hr
  · cases hr
    rw [show hu = none from hh]
    exact ⟨_, _, _, by simp [Instr.makeMap, Sem.run_bind], Env.ext_put _ _ _, Nat.le_succ _, key, hv, Below.alloc' w _ s.base⟩
  · rename_i ti k n ht
    obtain ⟨y, rfl, hy⟩ := hh
    rw [show y = _ from hy]
    split at hr
    · rename_i kt et hd
      cases hr
      exact ⟨_, _, _, by simp [Instr.makeMap, Sem.run_bind, run_underlying (hT.map ht hd), asInt, asIntOf], Env.ext_put _ _ _, Nat.le_succ _, key, hv, Below.alloc' w _ s.base⟩
    · cases hr
  · cases hr

/-! ### for k, v := range m -/

def xrange (T : TT) (h : Hp) (t : TypeId) (x : V) : Option (V × Hp) :=
  match T t with
  | some ti =>
    match ti.d, x with
    | .map _ _, .map none => some (.ptr (some (h.next, 0)), h.alloc (.miter none 0 [] 0))
    | .map _ _, .map (some i) =>
      match h.get i with
      | some (.map _ clk) => some (.ptr (some (h.next, 0)), h.alloc (.miter (some i) clk [] clk))
      | _ => none
    | _, _ => none
  | none => none

theorem xrange_sound (hT : TTok P T) (s : Sat B ρ h w) {t : TypeId} {x r : V} {xu : Value} {h' : Hp} (hx : VR h.next ρ x xu) (hr : xrange T h t x = some (r, h')) :
    ∃ z w' ρ', (Instr.range t xu).run P w = .ok z w' ∧ Ext h.next ρ ρ' ∧ h.next ≤ h'.next ∧ Sat B ρ' h' w' ∧ VR h'.next ρ' r z ∧ Below B w w' := by
  unfold xrange at hr
  split at hr
  · rename_i ti ht
    split at hr
    · rename_i kt et hd
      cases hr
      rw [show xu = _ from hx]
      refine ⟨.pointer (some ⟨w.heap.size, 0, none⟩), w.alloc (.mapIter none 0 #[] 0), _, by simp [Instr.range, Sem.run_bind, run_underlying (hT.map ht hd)], Env.ext_put _ _ _, Nat.le_succ _, s.newB _ _ ?_, ?_, Below.alloc' w _ s.base⟩
      · exact ⟨s.base, rfl, fun i hi => (by cases hi), heap_push w _⟩
      · exact ⟨Nat.lt_succ_self _, by rw [Env.put_same]⟩
    · rename_i kt et i hd
      obtain ⟨hi, rfl⟩ := hx
      split at hr
      · rename_i es clk hg
        cases hr
        obtain ⟨ms, hb, hes⟩ := s.map hg
        have hgo : (getObj (ρ i).blk).run P w = .ok (.map ms clk) w := MapKept.run_getObj_map hb
        refine ⟨.pointer (some ⟨w.heap.size, 0, none⟩), w.alloc (.mapIter (some (ρ i).blk) clk #[] clk), _, by simp [Instr.range, Sem.run_bind, run_underlying (hT.map ht hd), hgo], Env.ext_put _ _ _, Nat.le_succ _, s.newB _ _ ?_, ?_, Below.alloc' w _ s.base⟩
        · refine ⟨s.base, rfl, fun i' hi' => (by cases hi'; exact Nat.lt_succ_of_lt hi), ?_⟩
          rw [heap_push w _, Option.map_some, Env.ext_put _ _ _ i hi]
        · exact ⟨Nat.lt_succ_self _, by rw [Env.put_same]⟩
      · cases hr
    · cases hr
  · cases hr

/-- who may come next: those that were there when the loop began and have not come; and those that came in since. none: the loop may end. -/
def cands (es : List Ent) (since : Nat) (seen : List Nat) : List (Option Ent) :=
  let left := es.filter fun e => !seen.contains e.born
  let old := left.filter fun e => decide (e.born < since)
  let new := left.filter fun e => decide (e.born ≥ since)
  (if old.isEmpty then [none] else []) ++ (old ++ new).map some

def xnext (h : Hp) (it : V) : Option (List (V × Hp)) :=
  match it with
  | .ptr (some (r, 0)) =>
    match h.get r with
    | some (.miter none _ _ _) => some [(.tup [.bool false], h)]
    | some (.miter (some m) since seen last) =>
      match h.get m with
      | some (.map es clk) =>
        bif (!seen.isEmpty && !es.isEmpty && es.all fun e => decide (e.born ≥ last)) then none
        else some ((cands es since seen).map fun
          | none => (.tup [.bool false], h)
          | some e => (.tup [.bool true, e.key, e.val], h.set r (.miter (some m) since (seen ++ [e.born]) clk)))
      | _ => none
    | _ => none
  | _ => none

theorem EntsR.filter {N : Nat} (p : Nat → Bool) : ∀ {es : List Ent} {ms : List MapEntry}, EntsR N ρ es ms → EntsR N ρ (es.filter fun e => p e.born) (ms.filter fun m => p m.born)
  | [], _, h => by rw [show _ = [] from h]; exact rfl
  | e :: es, _, h => by
    obtain ⟨m, r, rfl, h1, h2⟩ := h
    simp only [List.filter_cons, h1.2.2]
    split
    · exact ⟨m, _, rfl, h1, EntsR.filter p h2⟩
    · exact EntsR.filter p h2

theorem EntsR.all {N : Nat} (p : Nat → Bool) : ∀ {es : List Ent} {ms : List MapEntry}, EntsR N ρ es ms → ms.all (fun m => p m.born) = es.all fun e => p e.born
  | [], _, h => by rw [show _ = [] from h]; rfl
  | e :: es, _, h => by
    obtain ⟨m, r, rfl, h1, h2⟩ := h
    simp only [List.all_cons, h1.2.2, EntsR.all p h2]

def candM (ms : List MapEntry) (since : Nat) (seen : List Nat) : List (Option MapEntry) :=
  let left := ms.filter fun e => !seen.contains e.born
  let old := left.filter fun e => decide (e.born < since)
  let new := left.filter fun e => decide (e.born ≥ since)
  (if old.isEmpty then [none] else []) ++ (old ++ new).map some

theorem EntsR.isEmpty {N : Nat} {es : List Ent} {ms : List MapEntry} (h : EntsR N ρ es ms) : ms.isEmpty = es.isEmpty := by
  have := h.length
  cases es <;> cases ms <;> simp at this ⊢

theorem cands_sound {N : Nat} {es : List Ent} {ms : List MapEntry} (hes : EntsR N ρ es ms) (since : Nat) (seen : List Nat) :
    (candM ms since seen).length = (cands es since seen).length ∧ 0 < (cands es since seen).length ∧
    ∀ (j : Nat), j < (cands es since seen).length → ((candM ms since seen)[j]? = some none ∧ (cands es since seen)[j]? = some none) ∨
      ∃ e m, (candM ms since seen)[j]? = some (some m) ∧ (cands es since seen)[j]? = some (some e) ∧ EntR N ρ e m := by
  have h1 := hes.filter (fun b => !seen.contains b)
  have h2 := h1.filter (fun b => decide (b < since))
  have h3 := h1.filter (fun b => decide (b ≥ since))
  have h4 := h2.isEmpty
  unfold candM cands
  simp only
  generalize hl : (ms.filter fun e => !seen.contains e.born) = left at *
  generalize hL : (es.filter fun e => !seen.contains e.born) = Left at *
  rw [h4]
  generalize ho : (left.filter fun e => decide (e.born < since)) = old at *
  generalize hO : (Left.filter fun e => decide (e.born < since)) = Old at *
  generalize hn : (left.filter fun e => decide (e.born ≥ since)) = new at *
  generalize hN : (Left.filter fun e => decide (e.born ≥ since)) = New at *
  have h5 := h2.append h3
  have hlen := h5.length
  refine ⟨?_, ?_, fun j hj => ?_⟩
  · simp only [List.length_append, List.length_map] at hlen ⊢
    have : (if Old.isEmpty = true then [none] else ([] : List (Option MapEntry))).length = (if Old.isEmpty = true then [none] else ([] : List (Option Ent))).length := by split <;> rfl
    omega
  · cases Old with
    | nil => simp
    | cons a b => simp
  · cases hOe : Old.isEmpty with
    | true =>
      simp only [hOe, if_true] at hj ⊢
      cases j with
      | zero => exact .inl ⟨rfl, rfl⟩
      | succ j =>
        right
        simp only [List.singleton_append, List.length_cons, List.length_map] at hj
        obtain ⟨e, he⟩ : ∃ e, (Old ++ New)[j]? = some e := ⟨_, List.getElem?_eq_getElem (by omega)⟩
        obtain ⟨m, hm, hr⟩ := h5.get he
        exact ⟨e, m, by rw [List.singleton_append, List.getElem?_cons_succ, List.getElem?_map, hm]; rfl, by rw [List.singleton_append, List.getElem?_cons_succ, List.getElem?_map, he]; rfl, hr⟩
    | false =>
      simp only [hOe, Bool.false_eq_true, if_false, List.nil_append] at hj ⊢
      right
      simp only [List.length_map] at hj
      obtain ⟨e, he⟩ : ∃ e, (Old ++ New)[j]? = some e := ⟨_, List.getElem?_eq_getElem (by omega)⟩
      obtain ⟨m, hm, hr⟩ := h5.get he
      exact ⟨e, m, by rw [List.getElem?_map, hm]; rfl, by rw [List.getElem?_map, he]; rfl, hr⟩

theorem Below.drew' (w : World) : Below B w w.drew := (Below.refl B w).drew

theorem xnext_sound (s : Sat B ρ h w) {it : V} {itu : Value} {ty : TypeId} {l : List (V × Hp)} (hit : VR h.next ρ it itu) (hr : xnext h it = some l) :
    ∃ z w' r h', (Instr.next itu false ty).run P w = .ok z w' ∧ (r, h') ∈ l ∧ h'.next = h.next ∧ Sat B ρ h' w' ∧ VR h.next ρ r z ∧ Below B w w' := by
  unfold xnext at hr
  split at hr
  · rename_i r
    obtain ⟨_, rfl⟩ := hit
    split at hr
    · rename_i hg
      cases hr
      obtain ⟨_, h0, h1, _, h2⟩ := s.obj r _ hg
      obtain ⟨q1, q2, q3, hgo⟩ : ∃ a b c, (getObj (ρ r).blk).run P w = .ok (.mapIter none a b c) w := ⟨_, _, _, by simp [getObj, Sem.run, h2]; exact ⟨rfl, rfl, rfl⟩⟩
      refine ⟨.tuple #[.bool false], w, _, h, ?_, List.mem_singleton.2 rfl, rfl, s, ⟨_, rfl, _, _, rfl, rfl, rfl⟩, Below.refl _ _⟩
      simp [Instr.next, h1, Sem.run_bind, hgo]
    · rename_i m since seen last hg
      obtain ⟨_, h0, h1, hm, h2⟩ := s.obj r _ hg
      have hgo : ∀ w', w'.heap = w.heap → (getObj (ρ r).blk).run P w' = .ok (.mapIter (some (ρ m).blk) since seen.toArray last) w' := fun w' e => by simp [getObj, Sem.run, e, h2]
      split at hr
      · rename_i es clk hgm
        obtain ⟨ms, hb, hes⟩ := s.map hgm
        have hgm' : (getObj (ρ m).blk).run P w = .ok (.map ms clk) w := MapKept.run_getObj_map hb
        cases hc : (!seen.isEmpty && !es.isEmpty && es.all fun e => decide (e.born ≥ last)) with
        | true => rw [hc] at hr; cases hr
        | false =>
          rw [hc] at hr
          simp only [cond_false, Option.some.injEq] at hr
          subst hr
          have hguard : (!seen.toArray.isEmpty && !ms.isEmpty && ms.all fun e => decide (e.born ≥ last)) = false := by
            rw [← hc]
            have e1 := hes.isEmpty
            have e2 := hes.all (fun b => decide (b ≥ last))
            simp only [Array.isEmpty_toList] at e1
            rw [Array.all_toList] at e2
            rw [e1, e2]; simp
          obtain ⟨hl1, hl2, hl3⟩ := cands_sound hes since seen
          -- the model's candidates
          let cs : Array (Option MapEntry) := (if ((ms.filter fun e => !seen.toArray.contains e.born).filter (·.born < since)).isEmpty then #[none] else #[]) ++
              (((ms.filter fun e => !seen.toArray.contains e.born).filter (·.born < since)) ++ ((ms.filter fun e => !seen.toArray.contains e.born).filter (·.born ≥ since))).map some
          have hcs : cs.toList = candM ms.toList since seen := by
            simp only [cs, candM]
            rw [Array.toList_append]
            congr 1
            · have : ((ms.filter fun e => !seen.toArray.contains e.born).filter (·.born < since)).isEmpty = ((ms.toList.filter fun e => !seen.contains e.born).filter fun e => decide (e.born < since)).isEmpty := by
                rw [← Array.isEmpty_toList]; simp
              rw [this]
              split <;> rfl
            · simp
          have hsz : cs.size = (cands es since seen).length := by rw [← hl1, ← hcs]; simp
          -- the choice
          obtain ⟨c, w1, hch, hclt, hheap, hbel1⟩ : ∃ c w1, (choose (.mapNext cs.size)).run P w = .ok c w1 ∧ c < cs.size ∧ w1.heap = w.heap ∧ Below B w w1 := by
            rw [run_choose_drew]
            by_cases hf : (Question.mapNext cs.size).forced = true
            · rw [if_pos hf]
              exact ⟨0, w, rfl, by omega, rfl, Below.refl _ _⟩
            · rw [if_neg hf]
              exact ⟨_, _, rfl, Nat.mod_lt _ (by omega), rfl, Below.drew' w⟩
          have hcget : cs[c]? = (candM ms.toList since seen)[c]? := by rw [← hcs]; simp
          have hsat1 : Sat B ρ h w1 := s.keep (by rw [hheap]; exact Nat.le_refl _) (fun k _ => by rw [hheap])
          rcases hl3 c (by omega) with ⟨e1, e2⟩ | ⟨e, me, e1, e2, hre⟩
          · rw [e1] at hcget
            refine ⟨.tuple #[.bool false], w1, _, h, ?_, List.mem_map.2 ⟨none, List.mem_of_getElem? e2, rfl⟩, rfl, hsat1, ⟨_, rfl, _, _, rfl, rfl, rfl⟩, hbel1⟩
            simp only [Instr.next, h1, Nat.zero_add, Sem.run_bind, hgo w rfl, Result.andThen_ok, hgm', hguard, Bool.false_eq_true, if_false, Sem.run_pure]
            show ((choose (.mapNext cs.size)).run P w).andThen _ = _
            rw [hch]
            simp only [Result.andThen_ok]
            show Sem.run P (match cs[c]? with | some (some e) => _ | some none => _ | none => _) w1 = _
            rw [hcget]
            rfl
          · rw [e1] at hcget
            have hb1 : w1.heap[(ρ r).blk]? = some (.mapIter (some (ρ m).blk) since seen.toArray last) := by rw [hheap]; exact h2
            have hso : (setObj (ρ r).blk (.mapIter (some (ρ m).blk) since (seen.toArray.push me.born) clk)).run P w1 = .ok () (World.setB w1 (ρ r).blk (.mapIter (some (ρ m).blk) since (seen.toArray.push me.born) clk)) :=
              run_setObj_any hb1 (by intro c e f hc; cases hc)
            refine ⟨.tuple #[.bool true, me.key, me.val], World.setB w1 (ρ r).blk (.mapIter (some (ρ m).blk) since (seen.toArray.push me.born) clk), _, _, ?_, List.mem_map.2 ⟨some e, List.mem_of_getElem? e2, rfl⟩, rfl, hsat1.setB hg rfl hb1 ?_,
              ⟨_, rfl, _, _, rfl, rfl, _, _, rfl, hre.1, _, _, rfl, hre.2.1, rfl⟩, hbel1.trans (setB_below hb1 h0)⟩
            · simp only [Instr.next, h1, Nat.zero_add, Sem.run_bind, hgo w rfl, Result.andThen_ok, hgm', hguard, Bool.false_eq_true, if_false, Sem.run_pure]
              show ((choose (.mapNext cs.size)).run P w).andThen _ = _
              rw [hch]
              simp only [Result.andThen_ok]
              show Sem.run P (match cs[c]? with | some (some e) => _ | some none => _ | none => _) w1 = _
              rw [hcget]
              simp only [Sem.run_bind, hso, Result.andThen_ok, Sem.run_pure]
            · refine ⟨h0, h1, hm, ?_⟩
              rw [setB_heap hb1, if_pos rfl, Option.map_some, hre.2.2]
              simp
      · cases hr
    · cases hr
  · cases hr

/-! ### the entry at which an iterator stands -/

def xentry (h : Hp) (it : V) : Option V :=
  match it with
  | .ptr (some (r, 0)) =>
    match h.get r with
    | some (.miter (some m) _ seen stepped) =>
      match h.get m, seen.getLast? with
      | some (.map es clk), some b =>
        bif decide (clk = stepped) then
          match es.find? fun e => e.born == b with
          | some e => some (.tup [e.key, e.val])
          | none => none
        else none
      | _, _ => none
    | _ => none
  | _ => none

theorem EntsR.find {N : Nat} (p : Nat → Bool) : ∀ {es : List Ent} {ms : List MapEntry}, EntsR N ρ es ms → ∀ {e : Ent}, (es.find? fun e => p e.born) = some e → ∃ m, (ms.find? fun m => p m.born) = some m ∧ EntR N ρ e m
  | [], _, h, e, he => by simp at he
  | x :: es, _, h, e, he => by
    obtain ⟨m, r, rfl, h1, h2⟩ := h
    rw [List.find?_cons] at he ⊢
    rw [h1.2.2]
    cases hp : p x.born with
    | true => rw [hp] at he; cases he; exact ⟨m, rfl, h1⟩
    | false => rw [hp] at he; exact EntsR.find p h2 he

theorem xentry_sound (s : Sat B ρ h w) {it r : V} {itu : Value} (hit : VR h.next ρ it itu) (hr : xentry h it = some r) : ∃ z, (Instr.entry itu).run P w = .ok z w ∧ VR h.next ρ r z := by
  unfold xentry at hr
  split at hr
  · rename_i i
    obtain ⟨_, rfl⟩ := hit
    split at hr
    · rename_i m since seen stepped hg
      obtain ⟨_, h0, h1, hm, h2⟩ := s.obj i _ hg
      have hgo : (getObj (ρ i).blk).run P w = .ok (.mapIter (some (ρ m).blk) since seen.toArray stepped) w := by simp [getObj, Sem.run, h2]
      split at hr
      · rename_i es clk b hgm hb
        obtain ⟨ms, hbm, hes⟩ := s.map hgm
        have hgm' : (getObj (ρ m).blk).run P w = .ok (.map ms clk) w := MapKept.run_getObj_map hbm
        by_cases hcl : clk = stepped
        · rw [decide_eq_true hcl] at hr
          simp only [cond_true] at hr
          split at hr
          · rename_i e he
            cases hr
            obtain ⟨me, hme, hre⟩ := hes.find (fun x => x == b) he
            have hme' : (ms.find? fun m => m.born == b) = some me := by rw [← Array.find?_toList]; exact hme
            have hback : seen.toArray.back? = some b := by simpa using hb
            refine ⟨.tuple #[me.key, me.val], ?_, _, rfl, _, _, rfl, hre.1, _, _, rfl, hre.2.1, rfl⟩
            simp only [Instr.entry, h1, Nat.zero_add, Sem.run_bind, hgo, Result.andThen_ok, hback, hgm', hcl, bne_self_eq_false, Bool.false_eq_true, if_false, hme', Sem.run_pure]
          · cases hr
        · rw [decide_eq_false hcl] at hr; cases hr
      · cases hr
    · cases hr
  · cases hr

end
end Go.Vex
