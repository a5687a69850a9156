/-
  VEX, part H: maps that are written, iterators, make, append.
-/
import Derived.Test.YtkfnokgfgcfldaaGreatVexG
set_option linter.unusedSimpArgs false
set_option linter.unusedVariables false
namespace Go.Vex
open Go.RowKit (Below)

section
variable {P : Program} {T : TT} {B : Nat} {ρ : Env} {h : Hp} {w : World}

/-! ### one block that is no row of cells is written -/

def World.setB (w : World) (b : Nat) (o : Obj) : World := { w with heap := w.heap.setIfInBounds b o }

theorem run_setObj_any {b : Nat} {o o' : Obj} (hb : w.heap[b]? = some o) (hn : ∀ c e f, o ≠ .cells c e f) : (setObj b o').run P w = .ok () (World.setB w b o') := by
  simp only [setObj, Sem.run, hb]
  cases o with
  | cells c e f => exact absurd rfl (hn _ _ _)
  | _ => rfl

theorem setB_heap {b : Nat} {o o' : Obj} (hb : w.heap[b]? = some o) (k : Nat) : (World.setB w b o').heap[k]? = if k = b then some o' else w.heap[k]? := by
  obtain ⟨hl, _⟩ := Array.getElem?_eq_some_iff.1 hb
  simp only [World.setB, Array.getElem?_setIfInBounds]
  by_cases e : b = k
  · subst e; simp [hl]
  · rw [if_neg e, if_neg (fun e' => e e'.symm)]

theorem setB_size {b : Nat} {o' : Obj} : (World.setB w b o').heap.size = w.heap.size := by simp [World.setB]

theorem setB_below {b : Nat} {o o' : Obj} (hb : w.heap[b]? = some o) (hB : B ≤ b) : Below B w (World.setB w b o') :=
  ⟨rfl, rfl, rfl, by rw [setB_size]; exact Nat.le_refl _, fun k hk => by rw [setB_heap hb, if_neg (by omega)]⟩

/-- an object that is no row is written -/
theorem Sat.setB (s : Sat B ρ h w) {i : Nat} {o o' : O} {ob ob' : Obj} (hi : h.get i = some o) (hr : o.rw = true) (hb : w.heap[(ρ i).blk]? = some ob)
    (ho : OSat h.next ρ B (World.setB w (ρ i).blk ob') (ρ i) o') : Sat B ρ (h.set i o') (World.setB w (ρ i).blk ob') :=
  s.write hi hr (by rw [setB_size]; exact Nat.le_refl _) (fun k hk _ => by rw [setB_heap hb, if_neg hk]) ho

/-! ### m[k] = v -/

def peq1 : V → V → Bool
  | .bool a, .bool b => a == b
  | .int k a, .int k' b => decide (k = k') && decide (a = b)
  | .str a, .str b => a == b
  | _, _ => false

def peqs : List V → List V → Bool
  | [], [] => true
  | x :: xs, y :: ys => peq1 x y && peqs xs ys
  | _, _ => false

def peq : V → V → Bool
  | .agg xs, .agg ys => peqs xs ys
  | x, y => peq1 x y

theorem peq1_sound {N : Nat} {x y : V} {u v : Value} (hx : VR N ρ x u) (hy : VR N ρ y v) (h : peq1 x y = true) (n : Nat) : Instr.sameBits n u v = true := by
  unfold peq1 at h
  split at h
  · rw [show u = _ from hx, show v = _ from hy]; cases n <;> simpa [Instr.sameBits] using h
  · rw [show u = _ from hx, show v = _ from hy]
    simp at h
    cases n <;> simp [Instr.sameBits, h.1, h.2]
  · rw [show u = _ from hx, show v = _ from hy]
    rename_i a b
    have e : a = b := by simpa using h
    subst e
    cases n <;> (simp only [Instr.sameBits]; rw [beq_bytes]; exact h)
  · cases h

theorem peqs_sound {N : Nat} (n : Nat) : ∀ {xs ys : List V} {us vs : List Value}, VRs N ρ xs us → VRs N ρ ys vs → peqs xs ys = true → us.length = vs.length ∧ (us.zip vs).all (fun (x, y) => Instr.sameBits n x y) = true
  | [], [], us, vs, hx, hy, _ => by rw [show us = [] from hx, show vs = [] from hy]; simp
  | [], y :: ys, us, vs, hx, hy, h => by simp [peqs] at h
  | x :: xs, [], us, vs, hx, hy, h => by simp [peqs] at h
  | x :: xs, y :: ys, us, vs, hx, hy, h => by
    obtain ⟨u, us, rfl, h1, h2⟩ := hx
    obtain ⟨v, vs, rfl, h3, h4⟩ := hy
    simp only [peqs, Bool.and_eq_true] at h
    obtain ⟨e1, e2⟩ := peqs_sound n h2 h4 h.2
    refine ⟨by simp [e1], ?_⟩
    simp only [List.zip_cons_cons, List.all_cons, Bool.and_eq_true]
    exact ⟨peq1_sound h1 h3 h.1 n, e2⟩

theorem peq_sound {N : Nat} {x y : V} {u v : Value} (hx : VR N ρ x u) (hy : VR N ρ y v) (h : peq x y = true) (n : Nat) : Instr.sameBits (n + 1) u v = true := by
  unfold peq at h
  split at h
  · obtain ⟨us, rfl, h1⟩ := hx
    obtain ⟨vs, rfl, h2⟩ := hy
    obtain ⟨e1, e2⟩ := peqs_sound n h1 h2 h
    simp only [Array.length_toList] at e1
    simp only [Instr.sameBits, Bool.and_eq_true]
    exact ⟨by simp [e1], e2⟩
  · exact peq1_sound hx hy h _

theorem EntsR.append {N : Nat} : ∀ {es fs : List Ent} {ms ns : List MapEntry}, EntsR N ρ es ms → EntsR N ρ fs ns → EntsR N ρ (es ++ fs) (ms ++ ns)
  | [], _, _, _, h, h' => by rw [show _ = [] from h]; exact h'
  | _ :: _, _, _, _, h, h' => by
    obtain ⟨m, r, rfl, h1, h2⟩ := h
    exact ⟨m, _, rfl, h1, EntsR.append h2 h'⟩

theorem EntsR.set {N : Nat} {e : Ent} {m : MapEntry} (hr : EntR N ρ e m) : ∀ {es : List Ent} {ms : List MapEntry} (j : Nat), EntsR N ρ es ms → EntsR N ρ (es.set j e) (ms.set j m)
  | [], _, j, h => by rw [show _ = [] from h]; exact rfl
  | x :: es, _, j, h => by
    obtain ⟨y, r, rfl, h1, h2⟩ := h
    cases j with
    | zero => exact ⟨m, r, rfl, hr, h2⟩
    | succ j => exact ⟨y, _, rfl, h1, EntsR.set hr j h2⟩

theorem EntsR.erase {N : Nat} : ∀ {es : List Ent} {ms : List MapEntry} (j : Nat), EntsR N ρ es ms → EntsR N ρ (es.eraseIdx j) (ms.eraseIdx j)
  | [], _, j, h => by rw [show _ = [] from h]; exact rfl
  | x :: es, _, j, h => by
    obtain ⟨y, r, rfl, h1, h2⟩ := h
    cases j with
    | zero => exact h2
    | succ j => exact ⟨y, _, rfl, h1, EntsR.erase j h2⟩

theorem modify_toList (ms : Array MapEntry) (j : Nat) (f : MapEntry → MapEntry) {m : MapEntry} (hm : ms.toList[j]? = some m) : (ms.modify j f).toList = ms.toList.set j (f m) := by
  rw [Array.toList_modify]
  exact Go.ChangeMaps.modify_eq_set f _ _ _ hm

def xput (T : TT) (h : Hp) (t : TypeId) (m k v : V) : Option Hp :=
  match T t with
  | some ti =>
    match ti.d, m with
    | .map kt _, .map (some i) =>
      match h.get i with
      | some (.map es clk) =>
        bif xkey T 12 kt k then
          match xfind T kt k es 0 with
          | some none => some (h.set i (.map (es ++ [⟨k, v, clk⟩]) (clk + 1)))
          | some (some j) =>
            match es[j]? with
            | some e => bif peq e.key k then some (h.set i (.map (es.set j ⟨k, v, e.born⟩) clk)) else none
            | none => none
          | none => none
        else none
      | _ => none
    | _, _ => none
  | none => none

theorem Sat.mapOwn (s : Sat B ρ h w) {i : Nat} {es : List Ent} {clk : Nat} (hi : h.get i = some (.map es clk)) : B ≤ (ρ i).blk := (s.obj i _ hi).2.1

theorem keyStays {old new : Value} (hs : Instr.sameBits 10000 old new = true) : (Instr.keyThatStays old new).run P w = .ok new w := by
  simp [Instr.keyThatStays, hs]

theorem xput_sound (hT : TTok P T) (s : Sat B ρ h w) {t : TypeId} {m k v : V} {mu ku vu : Value} {h' : Hp} (hm : VR h.next ρ m mu) (hk : VR h.next ρ k ku) (hv : VR h.next ρ v vu) (hr : xput T h t m k v = some h') :
    ∃ w', (Instr.mapUpdate t mu ku vu).run P w = .ok () w' ∧ Sat B ρ h' w' ∧ h'.next = h.next ∧ Below B w w' := by
  unfold xput at hr
  split at hr
  · rename_i ti ht
    split at hr
    · rename_i kt et i hd
      obtain ⟨_, rfl⟩ := hm
      have hu := hT.map ht hd
      split at hr
      · rename_i es clk hg
        obtain ⟨ms, hb, hes⟩ := s.map hg
        have hB := s.mapOwn hg
        cases hkey : xkey T 12 kt k with
        | false => rw [hkey] at hr; cases hr
        | true =>
          rw [hkey] at hr
          simp only [cond_true] at hr
          have hck : ∀ em, (Instr.checkKey em 10000 kt ku).run P w = .ok () w := fun em => xkey_sound hT w em 12 kt k ku 10000 (by omega) hk hkey
          obtain ⟨ki, hki⟩ := xkey_type hkey
          obtain ⟨kd, hkd⟩ := hT.und hki
          have hgo : (getObj (ρ i).blk).run P w = .ok (.map ms clk) w := MapKept.run_getObj_map hb
          have hso : ∀ o', (setObj (ρ i).blk o').run P w = .ok () (World.setB w (ρ i).blk o') := fun o' => run_setObj_any hb (by intro c e f hc; cases hc)
          split at hr
          · rename_i hf
            cases hr
            have hf' := xfind_run hT hkd hk w hes hf
            refine ⟨World.setB w (ρ i).blk (.map (ms.push ⟨ku, vu, clk⟩) (clk + 1)), ?_, s.setB hg rfl hb ?_, rfl, setB_below hb hB⟩
            · simp only [Instr.mapUpdate, Sem.run_bind, run_underlying hu, Result.andThen_ok, hgo, hck, hf', found, hso]
            · refine ⟨hB, _, by rw [setB_heap hb, if_pos rfl], ?_⟩
              rw [Array.toList_push]
              exact hes.append ⟨_, _, rfl, ⟨hk, hv, rfl⟩, rfl⟩
          · rename_i j hf
            split at hr
            · rename_i e he
              cases hpe : peq e.key k with
              | false => rw [hpe] at hr; cases hr
              | true =>
                rw [hpe] at hr; cases hr
                have hf' := xfind_run hT hkd hk w hes hf
                obtain ⟨me, hme, hre⟩ := hes.get he
                have hme' : ms[j]? = some me := by simpa using hme
                have hst := keyStays (P := P) (w := w) (peq_sound hre.1 hk hpe 9999)
                refine ⟨World.setB w (ρ i).blk (.map (ms.modify j fun e => { e with key := ku, val := vu }) clk), ?_, s.setB hg rfl hb ?_, rfl, setB_below hb hB⟩
                · simp only [Instr.mapUpdate, Sem.run_bind, run_underlying hu, Result.andThen_ok, hgo, hck, hf', found, Nat.sub_zero, hme, Option.map_some, hme', Option.getD_some, hst, hso]
                · refine ⟨hB, _, by rw [setB_heap hb, if_pos rfl], ?_⟩
                  rw [modify_toList ms j _ hme]
                  exact hes.set (e := ⟨k, v, e.born⟩) (m := { me with key := ku, val := vu }) ⟨hk, hv, hre.2.2⟩ j
            · cases hr
          · cases hr
      · cases hr
    · cases hr
  · cases hr

/-! ### m[k] op= v, in two steps -/

def xmapEntry (T : TT) (h : Hp) (t : TypeId) (m k : V) : Option (V × Hp) :=
  match T t with
  | some ti =>
    match ti.d, m with
    | .map kt et, .map (some i) =>
      match h.get i, T et with
      | some (.map es clk), some ei =>
        bif xkey T 12 kt k then
          match xfind T kt k es 0 with
          | some none => match ei.zero with
            | some z => some (.tup [z, .int .i64 clk], h.set i (.map (es ++ [⟨k, z, clk⟩]) (clk + 1)))
            | none => none
          | some (some j) =>
            match es[j]? with
            | some e => bif peq e.key k then some (.tup [e.val, .int .i64 e.born], h.set i (.map (es.set j ⟨k, e.val, e.born⟩) clk)) else none
            | none => none
          | none => none
        else none
      | _, _ => none
    | _, _ => none
  | none => none

theorem xmapEntry_sound (hT : TTok P T) (s : Sat B ρ h w) {t : TypeId} {m k r : V} {mu ku : Value} {h' : Hp} (hm : VR h.next ρ m mu) (hk : VR h.next ρ k ku) (hr : xmapEntry T h t m k = some (r, h')) :
    ∃ z w', (Instr.mapEntry t mu ku).run P w = .ok z w' ∧ VR h.next ρ r z ∧ Sat B ρ h' w' ∧ h'.next = h.next ∧ Below B w w' := by
  unfold xmapEntry at hr
  split at hr
  · rename_i ti ht
    split at hr
    · rename_i kt et i hd
      obtain ⟨_, rfl⟩ := hm
      have hu := hT.map ht hd
      split at hr
      · rename_i es clk ei hg hei
        obtain ⟨ms, hb, hes⟩ := s.map hg
        have hB := s.mapOwn hg
        cases hkey : xkey T 12 kt k with
        | false => rw [hkey] at hr; cases hr
        | true =>
          rw [hkey] at hr
          simp only [cond_true] at hr
          have hck : ∀ em, (Instr.checkKey em 10000 kt ku).run P w = .ok () w := fun em => xkey_sound hT w em 12 kt k ku 10000 (by omega) hk hkey
          obtain ⟨ki, hki⟩ := xkey_type hkey
          obtain ⟨kd, hkd⟩ := hT.und hki
          have hgo : (getObj (ρ i).blk).run P w = .ok (.map ms clk) w := MapKept.run_getObj_map hb
          have hso : ∀ o', (setObj (ρ i).blk o').run P w = .ok () (World.setB w (ρ i).blk o') := fun o' => run_setObj_any hb (by intro c e f hc; cases hc)
          split at hr
          · rename_i hf
            have hf' := xfind_run hT hkd hk w hes hf
            split at hr
            · rename_i z hz
              cases hr
              obtain ⟨zx, hzr, hzv⟩ := hT.zeroV hei hz w
              have hzR := V.of_sound h.next ρ zx z hzv
              refine ⟨_, World.setB w (ρ i).blk (.map (ms.push ⟨ku, zx, clk⟩) (clk + 1)), ?_, ⟨_, rfl, _, _, rfl, hzR, _, _, rfl, rfl, rfl⟩, s.setB hg rfl hb ?_, rfl, setB_below hb hB⟩
              · simp only [Instr.mapEntry, Sem.run_bind, run_underlying hu, Result.andThen_ok, hgo, hck, hf', found, hzr, hso, Sem.run_pure, goInt]
              · refine ⟨hB, _, by rw [setB_heap hb, if_pos rfl], ?_⟩
                rw [Array.toList_push]
                exact hes.append ⟨_, _, rfl, ⟨hk, hzR, rfl⟩, rfl⟩
            · cases hr
          · rename_i j hf
            split at hr
            · rename_i e he
              cases hpe : peq e.key k with
              | false => rw [hpe] at hr; cases hr
              | true =>
                rw [hpe] at hr; cases hr
                have hf' := xfind_run hT hkd hk w hes hf
                obtain ⟨me, hme, hre⟩ := hes.get he
                have hme' : ms[j]? = some me := by simpa using hme
                have hst := keyStays (P := P) (w := w) (peq_sound hre.1 hk hpe 9999)
                refine ⟨.tuple #[me.val, .int .i64 e.born], World.setB w (ρ i).blk (.map (ms.modify j fun e => { e with key := ku }) clk), ?_, ⟨_, rfl, _, _, rfl, hre.2.1, _, _, rfl, rfl, rfl⟩, s.setB hg rfl hb ?_, rfl, setB_below hb hB⟩
                · simp only [Instr.mapEntry, Sem.run_bind, run_underlying hu, Result.andThen_ok, hgo, hck, hf', found, Nat.sub_zero, hme, Option.map_some, hme', Option.getD_some, hst, hso, Sem.run_pure, goInt, hre.2.2]
                · refine ⟨hB, _, by rw [setB_heap hb, if_pos rfl], ?_⟩
                  rw [modify_toList ms j _ hme]
                  exact hes.set (e := ⟨k, e.val, e.born⟩) (m := { me with key := ku }) ⟨hk, hre.2.1, hre.2.2⟩ j
            · cases hr
          · cases hr
      · cases hr
    · cases hr
  · cases hr

def xborn (n : Int) : List Ent → Nat → Option Nat
  | [], _ => none
  | e :: es, i => bif decide ((e.born : Int) = n) then some i else xborn n es (i + 1)

def xentryStore (h : Hp) (m stamp v : V) : Option Hp :=
  match m, stamp with
  | .map (some i), .int _ n =>
    match h.get i with
    | some (.map es clk) =>
      match xborn n es 0 with
      | some j => match es[j]? with
        | some e => some (h.set i (.map (es.set j ⟨e.key, v, e.born⟩) clk))
        | none => none
      | none => none
    | _ => none
  | _, _ => none

theorem xborn_sound {N : Nat} (n : Int) : ∀ {es : List Ent} {ms : List MapEntry} (i : Nat), EntsR N ρ es ms → ∀ {j : Nat}, xborn n es i = some j → i ≤ j ∧ ms.findIdx? (fun e => (e.born : Int) == n) = some (j - i)
  | [], _, _, _, _, h => by simp [xborn] at h
  | e :: es, _, i, hes, j, h => by
    obtain ⟨m, r, rfl, ⟨_, _, h3⟩, h4⟩ := hes
    unfold xborn at h
    by_cases hb : (e.born : Int) = n
    · rw [decide_eq_true hb] at h; cases h
      simp [List.findIdx?_cons, h3, hb]
    · rw [decide_eq_false hb] at h
      obtain ⟨h5, h6⟩ := xborn_sound n (i + 1) h4 h
      refine ⟨by omega, ?_⟩
      rw [List.findIdx?_cons]
      have : ((m.born : Int) == n) = false := by rw [h3]; simpa using hb
      rw [this]
      simp only [Bool.false_eq_true, if_false, h6, Option.map_some]
      congr 1; omega

theorem xentryStore_sound (s : Sat B ρ h w) {t : TypeId} {m k v : V} {mu ku vu : Value} {h' : Hp} (hm : VR h.next ρ m mu) (hk : VR h.next ρ k ku) (hv : VR h.next ρ v vu) (hr : xentryStore h m k v = some h') :
    ∃ w', (Instr.entryStore t mu ku vu).run P w = .ok () w' ∧ Sat B ρ h' w' ∧ h'.next = h.next ∧ Below B w w' := by
  unfold xentryStore at hr
  split at hr
  · rename_i i q n
    obtain ⟨_, rfl⟩ := hm
    rw [show ku = _ from hk]
    split at hr
    · rename_i es clk hg
      obtain ⟨ms, hb, hes⟩ := s.map hg
      have hB := s.mapOwn hg
      have hgo : (getObj (ρ i).blk).run P w = .ok (.map ms clk) w := MapKept.run_getObj_map hb
      have hso : ∀ o', (setObj (ρ i).blk o').run P w = .ok () (World.setB w (ρ i).blk o') := fun o' => run_setObj_any hb (by intro c e f hc; cases hc)
      split at hr
      · rename_i j hj
        split at hr
        · rename_i e he
          cases hr
          obtain ⟨_, hfi⟩ := xborn_sound n 0 hes hj
          obtain ⟨me, hme, hre⟩ := hes.get he
          have hfi' : ms.findIdx? (fun e => (e.born : Int) == n) = some j := by
            have e1 : ms = ms.toList.toArray := by simp
            rw [e1, List.findIdx?_toArray]; simpa using hfi
          refine ⟨World.setB w (ρ i).blk (.map (ms.modify j fun e => { e with val := vu }) clk), ?_, s.setB hg rfl hb ?_, rfl, setB_below hb hB⟩
          · simp only [Instr.entryStore, Sem.run_bind, Result.andThen_ok, hgo, asInt, asIntOf, Sem.run_pure, hfi', hso]
          · refine ⟨hB, _, by rw [setB_heap hb, if_pos rfl], ?_⟩
            rw [modify_toList ms j _ hme]
            exact hes.set (e := ⟨e.key, v, e.born⟩) (m := { me with val := vu }) ⟨hre.1, hv, hre.2.2⟩ j
        · cases hr
      · cases hr
    · cases hr
  · cases hr

/-! ### delete -/

def xdel (T : TT) (h : Hp) (t : TypeId) (m k : V) : Option Hp :=
  match T t with
  | some ti =>
    match ti.d, m with
    | .map kt _, .map none => bif xkey T 12 kt k then some h else none
    | .map kt _, .map (some i) =>
      match h.get i with
      | some (.map es clk) =>
        bif xkey T 12 kt k then
          match xfind T kt k es 0 with
          | some none => some (h.set i (.map es clk))
          | some (some j) => some (h.set i (.map (es.eraseIdx j) clk))
          | none => none
        else none
      | _ => none
    | _, _ => none
  | none => none

theorem xdel_sound (hT : TTok P T) (s : Sat B ρ h w) {t u ty : TypeId} {m k : V} {mu ku : Value} {h' : Hp} (hm : VR h.next ρ m mu) (hk : VR h.next ρ k ku) (hr : xdel T h t m k = some h') :
    ∃ w', (Builtin.delete_ #[t, u] ty #[mu, ku]).run P w = .ok (.tuple #[]) w' ∧ Sat B ρ h' w' ∧ h'.next = h.next ∧ Below B w w' := by
  unfold xdel at hr
  split at hr
  · rename_i ti ht
    split at hr
    · rename_i kt et hd
      cases hkey : xkey T 12 kt k with
      | false => rw [hkey] at hr; cases hr
      | true =>
        rw [hkey] at hr; cases hr
        rw [show mu = _ from hm]
        refine ⟨w, ?_, s, rfl, Below.refl _ _⟩
        simp [Builtin.delete_, Sem.run_bind, run_underlying (hT.map ht hd), xkey_sound hT w true 12 kt k ku 10000 (by omega) hk hkey]
    · rename_i kt et i hd
      obtain ⟨_, rfl⟩ := hm
      have hu := hT.map ht hd
      split at hr
      · rename_i es clk hg
        obtain ⟨ms, hb, hes⟩ := s.map hg
        have hB := s.mapOwn hg
        cases hkey : xkey T 12 kt k with
        | false => rw [hkey] at hr; cases hr
        | true =>
          rw [hkey] at hr
          simp only [cond_true] at hr
          have hck : ∀ em, (Instr.checkKey em 10000 kt ku).run P w = .ok () w := fun em => xkey_sound hT w em 12 kt k ku 10000 (by omega) hk hkey
          obtain ⟨ki, hki⟩ := xkey_type hkey
          obtain ⟨kd, hkd⟩ := hT.und hki
          have hgo : (getObj (ρ i).blk).run P w = .ok (.map ms clk) w := MapKept.run_getObj_map hb
          have hso : ∀ o', (setObj (ρ i).blk o').run P w = .ok () (World.setB w (ρ i).blk o') := fun o' => run_setObj_any hb (by intro c e f hc; cases hc)
          split at hr
          · rename_i hf
            cases hr
            have hf' := xfind_run hT hkd hk w hes hf
            refine ⟨World.setB w (ρ i).blk (.map ms clk), ?_, s.setB hg rfl hb ?_, rfl, setB_below hb hB⟩
            · simp only [Builtin.delete_, List.getElem?_toArray, List.getElem?_cons_zero, List.getElem?_cons_succ, Sem.run_bind, run_underlying hu, Result.andThen_ok, hgo, hck, hf', found, hso, Sem.run_pure]
            · exact ⟨hB, _, by rw [setB_heap hb, if_pos rfl], hes⟩
          · rename_i j hf
            cases hr
            have hf' := xfind_run hT hkd hk w hes hf
            obtain ⟨_, _, hjl⟩ := xfind_sound hT hkd hk w es ms.toList 0 _ hes hf
            have hjl := (hjl j rfl).2
            obtain ⟨me, hme, hre⟩ := hes.get (List.getElem?_eq_getElem (by omega : j < es.length))
            have hsz : j < ms.size := by have := hes.length; simp at this; omega
            refine ⟨World.setB w (ρ i).blk (.map (ms.eraseIdxIfInBounds j) clk), ?_, s.setB hg rfl hb ?_, rfl, setB_below hb hB⟩
            · simp only [Builtin.delete_, List.getElem?_toArray, List.getElem?_cons_zero, List.getElem?_cons_succ, Sem.run_bind, run_underlying hu, Result.andThen_ok, hgo, hck, hf', found, Nat.sub_zero, hme, Option.map_some, hso, Sem.run_pure]
            · refine ⟨hB, _, by rw [setB_heap hb, if_pos rfl], ?_⟩
              have : (ms.eraseIdxIfInBounds j).toList = ms.toList.eraseIdx j := by
                unfold Array.eraseIdxIfInBounds
                rw [dif_pos hsz]; simp
              rw [this]
              exact hes.erase j
          · cases hr
      · cases hr
    · cases hr
  · cases hr

end
end Go.Vex
