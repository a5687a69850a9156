/-
  VEX, part E: maps that are read; what is put together; 'xq', all quiet operations.
-/
import Derived.Test.YtkfnokgfgcfldaaGreatVexD
set_option linter.unusedSimpArgs false
set_option linter.unusedVariables false
namespace Go.Vex

/-! ### keys -/

def xkeyF (key : TypeId → V → Bool) (T : TT) (xs : List V) : List (Nat × TypeId × Bool) → Bool
  | [] => true
  | (off, ft, nm) :: fs =>
    bif nm then
      match xpart T ft xs off with
      | some a => key ft a && xkeyF key T xs fs
      | none => false
    else xkeyF key T xs fs

/-- may the value be a key? -/
def xkey (T : TT) : Nat → TypeId → V → Bool
  | 0, _, _ => false
  | d + 1, t, v =>
    match T t with
    | none => false
    | some ti =>
      match ti.d, v with
      | .int _, _ => true
      | .str, _ => true
      | .bool, _ => true
      | .struct fs, .agg xs => xkeyF (xkey T d) T xs fs
      | _, _ => false

section
variable {P : Program} {T : TT} {B : Nat} {ρ : Env} {h : Hp} {w : World}

theorem xkey_sound (hT : TTok P T) {N : Nat} (w : World) (em : Bool) : ∀ (d : Nat) (t : TypeId) (v : V) (u : Value) (n : Nat), d ≤ n → VR N ρ v u → xkey T d t v = true →
    (Instr.checkKey em n t u).run P w = .ok () w
  | 0, _, _, _, _, _, _, h => by simp [xkey] at h
  | d + 1, t, v, u, n, hn, hv, h => by
    obtain ⟨n, rfl⟩ : ∃ m, n = m + 1 := ⟨n - 1, by omega⟩
    unfold xkey at h
    split at h
    · cases h
    · rename_i ti ht
      split at h
      · rename_i k hd
        simp only [Instr.checkKey, Sem.run_bind, run_underlying (hT.int ht hd), Result.andThen_ok, Sem.run_pure]
      · rename_i hd
        simp only [Instr.checkKey, Sem.run_bind, run_underlying (hT.str ht hd), Result.andThen_ok, Sem.run_pure]
      · rename_i hd
        simp only [Instr.checkKey, Sem.run_bind, run_underlying (hT.bool ht hd), Result.andThen_ok, Sem.run_pure]
      · rename_i fs xs hd
        obtain ⟨us, rfl, hus⟩ := hv
        obtain ⟨gs, hg, rfl⟩ := hT.struct ht hd
        simp only [Instr.checkKey, Sem.run_bind, run_underlying hg, Result.andThen_ok]
        rw [← Array.forIn_toList]
        have key : ∀ (fs : List Field), xkeyF (xkey T d) T xs (fs.map fun f => (f.offset, f.type, f.name != "_")) = true →
            (forIn fs PUnit.unit fun f _ => (if f.name ≠ "_" then do
                Instr.checkKey em n f.type (← part f.type us f.offset); pure (ForInStep.yield PUnit.unit) else do pure PUnit.unit; pure (ForInStep.yield PUnit.unit) : Sem (ForInStep PUnit))).run P w = .ok PUnit.unit w := by
          intro fs
          induction fs with
          | nil => intro _; simp
          | cons f fs ih =>
            intro hf
            simp only [List.map_cons, xkeyF] at hf
            simp only [List.forIn_cons, Sem.run_bind]
            cases hnm : (f.name != "_") with
            | false =>
              rw [hnm] at hf
              have hn' : ¬ f.name ≠ "_" := by simpa using hnm
              rw [if_neg hn']
              simp only [Sem.run_bind, Sem.run_pure, Result.andThen_ok]
              exact ih hf
            | true =>
              rw [hnm] at hf
              have hn' : f.name ≠ "_" := by simpa using hnm
              rw [if_pos hn']
              simp only [cond_true] at hf
              split at hf
              · rename_i a ha
                simp only [Bool.and_eq_true] at hf
                obtain ⟨z, hz, hvz⟩ := xpart_sound hT w ha hus
                simp only [Sem.run_bind, hz, Result.andThen_ok, xkey_sound hT w em d _ _ _ n (by omega) hvz hf.1, Sem.run_pure]
                exact ih hf.2
              · cases hf
        rw [key gs.toList h]; rfl
      · cases h

/-- which entry bears the key -/
def xfind (T : TT) (kt : TypeId) (k : V) : List Ent → Nat → Option (Option Nat)
  | [], _ => some none
  | e :: es, i =>
    match veq T 12 kt k e.key with
    | some true => some (some i)
    | some false => xfind T kt k es (i + 1)
    | none => none

theorem sameNow_eq {d : TypeDesc} {kt : TypeId} (hd : P.underlying kt = some d) (w : World) {u v : Value} {b : Bool} (h : Instr.sameNow d u v = some b) : (Op.equal kt u v).run P w = .ok b w := by
  have key : ∀ n, (Op.equalIn (n + 1) kt u v).run P w = .ok b w := by
    intro n
    unfold Instr.sameNow at h
    split at h
    · split at h
      · rename_i e; subst e; cases h
        simp only [Op.equalIn, Sem.run_bind, run_underlying hd, Result.andThen_ok, if_true, Sem.run_pure]
      · cases h
    · cases h
      simp only [Op.equalIn, Sem.run_bind, run_underlying hd, Result.andThen_ok, if_true, Sem.run_pure]
    · cases h
      simp only [Op.equalIn, Sem.run_bind, run_underlying hd, Result.andThen_ok, if_true, Sem.run_pure]
    · cases h
  exact key 9999

def found (ms : List MapEntry) (i : Nat) : Option Nat → Option (Nat × Value)
  | none => none
  | some j => (ms[j - i]?).map fun m => (j, m.val)

theorem xfind_sound (hT : TTok P T) {N : Nat} {kt : TypeId} {d : TypeDesc} (hd : P.underlying kt = some d) {k : V} {ku : Value} (hk : VR N ρ k ku) (w : World) :
    ∀ (es : List Ent) (ms : List MapEntry) (i : Nat) (r : Option Nat), EntsR N ρ es ms → xfind T kt k es i = some r →
      (Instr.findAsking kt ku ms i).run P w = .ok (found ms i r) w ∧ (∀ r', Instr.findNow d ku ms i = some r' → r' = found ms i r) ∧ (∀ j, r = some j → i ≤ j ∧ j - i < es.length)
  | [], ms, i, r, hes, h => by
    simp [xfind] at h; subst h
    rw [show ms = [] from hes]
    exact ⟨by simp [Instr.findAsking, found], fun r' hr => by simp [Instr.findNow] at hr; rw [← hr]; rfl, fun j hj => by cases hj⟩
  | e :: es, ms, i, r, hes, h => by
    obtain ⟨m, ms', rfl, ⟨h1, h2, h3⟩, hes'⟩ := hes
    unfold xfind at h
    have heq : ∀ b, veq T 12 kt k e.key = some b → (Op.equal kt ku m.key).run P w = .ok b w := fun b hb => veq_sound hT w (12 + 9988) kt k e.key ku m.key b hk h1 (veq_le 9988 hb)
    split at h
    · rename_i hb
      cases h
      refine ⟨?_, fun r' hr => ?_, fun j hj => ?_⟩
      · simp [Instr.findAsking, Sem.run_bind, heq _ hb, found]
      · unfold Instr.findNow at hr
        split at hr
        · cases hr; simp [found]
        · rename_i hs
          have := sameNow_eq hd w hs
          rw [heq _ hb] at this; cases this
        · cases hr
      · cases hj; simp
    · rename_i hb
      obtain ⟨ih1, ih2, ih3⟩ := xfind_sound hT hd hk w es ms' (i + 1) r hes' h
      have hfound : found (m :: ms') i r = found ms' (i + 1) r := by
        cases r with
        | none => rfl
        | some j =>
          have := (ih3 j rfl).1
          simp only [found]
          rw [show j - i = (j - (i + 1)) + 1 by omega, List.getElem?_cons_succ]
      refine ⟨?_, fun r' hr => ?_, fun j hj => ?_⟩
      · rw [hfound]
        simp only [Instr.findAsking, Sem.run_bind, heq _ hb, Result.andThen_ok, Bool.false_eq_true, if_false]
        exact ih1
      · rw [hfound]
        unfold Instr.findNow at hr
        split at hr
        · rename_i hs
          have := sameNow_eq hd w hs
          rw [heq _ hb] at this; cases this
        · exact ih2 _ hr
        · cases hr
      · have := ih3 j hj
        simp only [List.length_cons]
        omega
    · cases h

theorem xfind_run (hT : TTok P T) {N : Nat} {kt : TypeId} {d : TypeDesc} (hd : P.underlying kt = some d) {k : V} {ku : Value} (hk : VR N ρ k ku) (w : World) {es : List Ent} {ms : List MapEntry} {r : Option Nat}
    (hes : EntsR N ρ es ms) (h : xfind T kt k es 0 = some r) : (Instr.findKey kt ku ms).run P w = .ok (found ms 0 r) w := by
  obtain ⟨h1, h2, _⟩ := xfind_sound hT hd hk w es ms 0 r hes h
  simp only [Instr.findKey, Sem.run_bind, run_underlying hd, Result.andThen_ok]
  split
  · rename_i r' hr; rw [h2 r' hr]; rfl
  · exact h1

theorem EntsR.length {N : Nat} : ∀ {es : List Ent} {ms : List MapEntry}, EntsR N ρ es ms → ms.length = es.length
  | [], _, h => by rw [show _ = [] from h]; rfl
  | _ :: _, _, h => by
    obtain ⟨x, r, rfl, _, h2⟩ := h
    simp [EntsR.length h2]

theorem EntsR.get {N : Nat} : ∀ {es : List Ent} {ms : List MapEntry}, EntsR N ρ es ms → ∀ {j : Nat} {e : Ent}, es[j]? = some e → ∃ m, ms[j]? = some m ∧ EntR N ρ e m
  | [], _, _, j, v, h => by simp at h
  | u :: vs, _, h, j, v, hj => by
    obtain ⟨x, r, rfl, h1, h2⟩ := h
    cases j with
    | zero => simp at hj; subst hj; exact ⟨x, rfl, h1⟩
    | succ j => simpa using EntsR.get h2 (by simpa using hj)

def xlook (T : TT) (h : Hp) (t : TypeId) (m k : V) (ok : Bool) : Option V :=
  match T t with
  | some ti =>
    match ti.d with
    | .map kt et =>
      bif xkey T 12 kt k then
        match T et with
        | some ei =>
          match ei.zero with
          | some z =>
            match m with
            | .map none => some (bif ok then .tup [z, .bool false] else z)
            | .map (some i) =>
              match h.get i with
              | some (.map es _) =>
                match xfind T kt k es 0 with
                | some none => some (bif ok then .tup [z, .bool false] else z)
                | some (some j) =>
                  match es[j]? with
                  | some e => some (bif ok then .tup [e.val, .bool true] else e.val)
                  | none => none
                | none => none
              | _ => none
            | _ => none
          | none => none
        | none => none
      else none
    | _ => none
  | none => none

theorem ok_pair {N : Nat} {ok b : Bool} {v : V} {x : Value} (hv : VR N ρ v x) : VR N ρ (bif ok then .tup [v, .bool b] else v) (if ok then .tuple #[x, .bool b] else x) := by
  cases ok with
  | false => exact hv
  | true => exact ⟨_, rfl, x, _, rfl, hv, _, _, rfl, rfl, rfl⟩

theorem TTok.und (hT : TTok P T) {t : TypeId} {ti : TI} (ht : T t = some ti) : ∃ d, P.underlying t = some d := by
  obtain ⟨_, d, _, h, _⟩ := hT.ok t ti ht; exact ⟨d, h⟩

theorem xkey_type {d : Nat} {t : TypeId} {v : V} (h : xkey T d t v = true) : ∃ ti, T t = some ti := by
  cases d with
  | zero => simp [xkey] at h
  | succ d =>
    unfold xkey at h
    split at h
    · cases h
    · rename_i ti ht; exact ⟨ti, ht⟩

theorem Sat.map (s : Sat B ρ h w) {i : Nat} {es : List Ent} {clk : Nat} (hi : h.get i = some (.map es clk)) : ∃ ms, w.heap[(ρ i).blk]? = some (.map ms clk) ∧ EntsR h.next ρ es ms.toList :=
  (s.obj i _ hi).2.2

theorem xlook_sound (hT : TTok P T) (s : Sat B ρ h w) {t : TypeId} {m k : V} {ok : Bool} {mu ku : Value} {r : V} (hm : VR h.next ρ m mu) (hk : VR h.next ρ k ku) (hr : xlook T h t m k ok = some r) :
    ∃ z, (Instr.lookup t mu ku ok).run P w = .ok z w ∧ VR h.next ρ r z := by
  unfold xlook at hr
  split at hr
  · rename_i ti ht
    split at hr
    · rename_i kt et hd
      have hu := hT.map ht hd
      cases hkey : xkey T 12 kt k with
      | false => rw [hkey] at hr; cases hr
      | true =>
        rw [hkey] at hr
        simp only [cond_true] at hr
        have hck : ∀ em, (Instr.checkKey em 10000 kt ku).run P w = .ok () w := fun em => xkey_sound hT w em 12 kt k ku 10000 (by omega) hk hkey
        obtain ⟨ki, hki⟩ := xkey_type hkey
        obtain ⟨kd, hkd⟩ := hT.und hki
        split at hr
        · rename_i ei hei
          split at hr
          · rename_i z hz
            obtain ⟨zx, hzr, hzv⟩ := hT.zeroV hei hz w
            have hzR := V.of_sound h.next ρ zx z hzv
            split at hr
            · cases hr
              rw [show mu = _ from hm]
              have hf : (Instr.findKey kt ku []).run P w = .ok none w := by
                simp [Instr.findKey, Sem.run_bind, run_underlying hkd, Instr.findNow]
              refine ⟨_, ?_, ok_pair hzR⟩
              simp only [Instr.lookup, Sem.run_bind, run_underlying hu, Result.andThen_ok, Sem.run_pure, hck, List.toList_toArray, hf, hzr]
            · rename_i i
              obtain ⟨hi, rfl⟩ := hm
              split at hr
              · rename_i es clk hg
                obtain ⟨ms, hb, hes⟩ := s.map hg
                have hgo : (getObj (ρ i).blk).run P w = .ok (.map ms clk) w := MapKept.run_getObj_map hb
                split at hr
                · rename_i hf
                  cases hr
                  have hf' := xfind_run hT hkd hk w hes hf
                  refine ⟨_, ?_, ok_pair hzR⟩
                  simp only [Instr.lookup, Sem.run_bind, run_underlying hu, Result.andThen_ok, hgo, Sem.run_pure, hck, hf', found, hzr]
                · rename_i j hf
                  split at hr
                  · rename_i e he
                    cases hr
                    have hf' := xfind_run hT hkd hk w hes hf
                    obtain ⟨me, hme, hre⟩ := hes.get he
                    refine ⟨_, ?_, ok_pair hre.2.1⟩
                    simp only [Instr.lookup, Sem.run_bind, run_underlying hu, Result.andThen_ok, hgo, Sem.run_pure, hck, hf', found, Nat.sub_zero, hme, Option.map_some]
                  · cases hr
                · cases hr
              · cases hr
            · cases hr
          · cases hr
        · cases hr
    · cases hr
  · cases hr

/-! ### put together -/

def vcells : V → List V
  | .agg cs => cs
  | v => [v]

theorem VR.cells {N : Nat} {v : V} {x : Value} (hv : VR N ρ v x) : VRs N ρ (vcells v) x.cells.toList := by
  cases v with
  | agg cs => obtain ⟨xs, rfl, h⟩ := hv; exact h
  | _ =>
    simp only [vcells]
    refine ⟨x, [], ?_, hv, rfl⟩
    cases x with
    | agg xs => obtain ⟨vs, e, _⟩ := hv.inv_agg; cases e
    | _ => rfl

def splice (c : List V) (o : Nat) (l : List V) : List V := c.take o ++ l ++ c.drop (o + l.length)

theorem splice_length {c : List V} {o : Nat} {l : List V} (hl : o + l.length ≤ c.length) : (splice c o l).length = c.length := by
  simp [splice]; omega

theorem foldl_set_toList : ∀ (xs : List Value) (cs : Array Value) (off j : Nat), off + j + xs.length ≤ cs.size →
    ((xs.zipIdx j).foldl (fun cs (c, i) => cs.setIfInBounds (off + i) c) cs).toList = cs.toList.take (off + j) ++ xs ++ cs.toList.drop (off + j + xs.length)
  | [], cs, off, j, _ => by simp
  | x :: xs, cs, off, j, h => by
    simp only [List.length_cons] at h
    simp only [List.zipIdx_cons, List.foldl_cons]
    rw [foldl_set_toList xs (cs.setIfInBounds (off + j) x) off (j + 1) (by simp; omega)]
    simp only [Array.toList_setIfInBounds]
    apply List.ext_getElem?
    intro i
    simp only [List.getElem?_append, List.getElem?_take, List.getElem?_drop, List.getElem?_set, List.length_append, List.length_take, List.length_set, List.length_cons, Array.length_toList]
    rcases Nat.lt_trichotomy i (off + j) with hi | hi | hi
    · have h1 : i < min (off + (j + 1)) cs.size := by omega
      have h2 : i < min (off + j) cs.size := by omega
      simp [h1, h2, show i < off + (j + 1) by omega, show ¬ off + j = i by omega, hi, show i < min (off + (j + 1)) cs.size + xs.length by omega, show i < min (off + j) cs.size + (xs.length + 1) by omega]
    · subst hi
      have h1 : off + j < min (off + (j + 1)) cs.size := by omega
      have h2 : min (off + j) cs.size = off + j := by omega
      have h3 : off + j < cs.size := by omega
      simp [h1, h2, h3, show off + j < off + (j + 1) by omega, show off + j < min (off + (j + 1)) cs.size + xs.length by omega]
    · have h1 : ¬ i < min (off + (j + 1)) cs.size := by omega
      have h1' : min (off + (j + 1)) cs.size = off + j + 1 := by omega
      have h2 : ¬ i < min (off + j) cs.size := by omega
      have h2' : min (off + j) cs.size = off + j := by omega
      by_cases h3 : i < off + j + 1 + xs.length
      · have e : i - (off + j) = (i - (off + j + 1)) + 1 := by omega
        simp [h1', h2', show ¬ i < off + j + 1 by omega, show ¬ i < off + j by omega, h3, show i < off + j + (xs.length + 1) by omega, e]
      · simp [h1', h2', h3, show ¬ i < off + j + (xs.length + 1) by omega, show ¬ off + j = off + (j + 1) + xs.length + (i - (off + j + 1 + xs.length)) by omega]
        congr 1
        omega

theorem splice_vrs {N : Nat} {c l : List V} {cs : Array Value} {xs : List Value} {o : Nat} (hc : VRs N ρ c cs.toList) (hl : VRs N ρ l xs) (hb : o + l.length ≤ c.length) :
    VRs N ρ (splice c o l) ((xs.zipIdx).foldl (fun cs (c, i) => cs.setIfInBounds (o + i) c) cs).toList := by
  have hcl := hc.length
  have hll := hl.length
  rw [foldl_set_toList xs cs o 0 (by simp at hcl; omega)]
  simp only [Nat.add_zero, splice]
  rw [← hll]
  exact ((hc.take o).append hl).append (hc.drop _)

def xfill (place : Nat → Option (Nat × Nat)) (c : List V) : List (Nat × V) → Option (List V)
  | [] => some c
  | (i, v) :: rest =>
    match place i with
    | none => none
    | some (off, size) =>
      bif Nat.beq (vcells v).length size && Nat.ble (off + size) c.length then xfill place (splice c off (vcells v)) rest else none

theorem xfill_sound {N : Nat} (pl : Nat → Option (Nat × Nat)) : ∀ (parts : List (Nat × V)) (us : List (Nat × Value)) (c : List V) (cs : Array Value) (r : List V), us.length = parts.length →
    (∀ (j i : Nat) v, parts[j]? = some (i, v) → ∃ x, us[j]? = some (i, x) ∧ VR N ρ v x) → VRs N ρ c cs.toList → xfill pl c parts = some r → ∃ rs, Instr.fill pl cs us = some rs ∧ VRs N ρ r rs.toList
  | [], us, c, cs, r, hl, _, hc, hr => by
    simp [xfill] at hr; subst hr
    have : us = [] := by simpa using hl
    subst this
    exact ⟨cs, rfl, hc⟩
  | (i, v) :: rest, [], c, cs, r, hl, _, hc, hr => by simp at hl
  | (i, v) :: rest, (i', x) :: us, c, cs, r, hl, hp, hc, hr => by
    obtain ⟨y, hy, hv⟩ := hp 0 i v rfl
    simp at hy
    obtain ⟨rfl, rfl⟩ := hy
    unfold xfill at hr
    unfold Instr.fill
    split at hr
    · cases hr
    · rename_i off size hpl
      cases hb : (Nat.beq (vcells v).length size && Nat.ble (off + size) c.length) with
      | false => rw [hb] at hr; cases hr
      | true =>
        rw [hb] at hr
        simp only [cond_true] at hr
        simp only [Bool.and_eq_true] at hb
        have e1 : (vcells v).length = size := Nat.eq_of_beq_eq_true hb.1
        have e2 := Nat.le_of_ble_eq_true hb.2
        have hvc := hv.cells
        have e3 : x.cells.size = size := by rw [← e1, ← hvc.length]; simp
        have e4 : cs.size = c.length := by rw [← hc.length]; simp
        simp only [hpl]
        rw [if_neg (by simp [e3, e4]; omega)]
        have hs := splice_vrs (o := off) hc hvc (by rw [e1]; exact e2)
        rw [← Array.toList_zipIdx, Array.foldl_toList] at hs
        exact xfill_sound pl rest us _ _ r (by simpa using hl) (fun j i v hj => hp (j + 1) i v hj) hs hr


theorem run_mapM {α β : Type} (P : Program) (w : World) (f : α → Sem β) (g : α → β) : ∀ (l : List α), (∀ x ∈ l, (f x).run P w = .ok (g x) w) → (l.mapM f).run P w = .ok (l.map g) w
  | [], _ => by simp
  | x :: l, h => by
    simp only [List.mapM_cons, Sem.run_bind, h x (List.mem_cons_self ..), Result.andThen_ok, run_mapM P w f g l (fun y hy => h y (List.mem_cons_of_mem _ hy)), Sem.run_pure, List.map_cons]

theorem run_mapM_array {α β : Type} (P : Program) (w : World) (f : α → Sem β) (g : α → β) (l : Array α) (h : ∀ x ∈ l.toList, (f x).run P w = .ok (g x) w) : (l.mapM f).run P w = .ok (l.map g) w := by
  rw [Array.mapM_eq_mapM_toList]
  simp only [Sem.run_map, run_mapM P w f g l.toList h, Result.andThen_ok]
  congr 1
  apply Array.ext'
  simp

/-- the places of a struct's fields, if the sizes of all are known -/
def fplaces (T : TT) : List (Nat × TypeId × Bool) → Option (List (Nat × Nat))
  | [] => some []
  | (off, ft, _) :: fs =>
    match T ft, fplaces T fs with
    | some fi, some l => some ((off, fi.size) :: l)
    | _, _ => none

theorem fplaces_sound (hT : TTok P T) (w : World) : ∀ (gs : List Field) (l : List (Nat × Nat)), fplaces T (gs.map fun f => (f.offset, f.type, f.name != "_")) = some l →
    ∃ g : Field → Nat × Nat, l = gs.map g ∧ ∀ f ∈ gs, (do pure (f.offset, ← sizeOf f.type) : Sem (Nat × Nat)).run P w = .ok (g f) w := by
  intro gs l h
  refine ⟨fun f => (f.offset, ((T f.type).map (·.size)).getD 0), ?_⟩
  induction gs generalizing l with
  | nil => simp [fplaces] at h; subst h; simp
  | cons f gs ih =>
    simp only [List.map_cons, fplaces] at h
    split at h
    · rename_i fi l' hf hl
      cases h
      obtain ⟨e, h2⟩ := ih l' hl
      refine ⟨by simp [hf, e], fun f' hf' => ?_⟩
      rcases List.mem_cons.1 hf' with rfl | hm
      · simp [Sem.run_bind, hT.size hf, hf]
      · exact h2 f' hm
    · cases h

def xbuild (T : TT) (t : TypeId) (parts : List (Nat × V)) : Option V :=
  match T t with
  | some ti =>
    match ti.d, ti.zero with
    | .struct fs, some (.agg zs) =>
      match fplaces T fs with
      | some pl => (xfill (fun i => pl[i]?) zs parts).map V.agg
      | none => none
    | .arr _ e, some (.agg zs) =>
      match T e with
      | some ei => (xfill (fun i => some (i * ei.size, ei.size)) zs parts).map V.agg
      | none => none
    | _, _ => none
  | none => none

/-- the parts of a literal, abstractly and truly -/
def PartsR (N : Nat) (ρ : Env) (ps : List (Nat × V)) (us : List (Nat × Value)) : Prop := us.length = ps.length ∧ ∀ (j i : Nat) v, ps[j]? = some (i, v) → ∃ x, us[j]? = some (i, x) ∧ VR N ρ v x

theorem xbuild_sound (hT : TTok P T) (w : World) {N : Nat} {t : TypeId} {parts : List (Nat × V)} {us : Array (Nat × Value)} {r : V} (hp : PartsR N ρ parts us.toList) (hr : xbuild T t parts = some r) :
    ∃ z, (Instr.build t us).run P w = .ok z w ∧ VR N ρ r z := by
  unfold xbuild at hr
  split at hr
  · rename_i ti ht
    split at hr
    · rename_i fs zs hd hz
      obtain ⟨gs, hg, rfl⟩ := hT.struct ht hd
      split at hr
      · rename_i pl hpl
        obtain ⟨c, hc, rfl⟩ := Option.map_eq_some_iff.1 hr
        obtain ⟨g, rfl, hrun⟩ := fplaces_sound hT w gs.toList pl hpl
        obtain ⟨zx, hzr, hzv⟩ := hT.zeroV ht hz w
        have hzR := (V.of_sound N ρ zx _ hzv).cells
        obtain ⟨rs, hrs, hv⟩ := xfill_sound (ρ := ρ) (fun i => (gs.toList.map g)[i]?) parts us.toList zs zx.cells c hp.1 hp.2 hzR hc
        have e : (fun i : Nat => (gs.map g)[i]?) = fun i : Nat => (gs.toList.map g)[i]? := by
          funext i; simp
        refine ⟨.agg rs, ?_, rs, rfl, hv⟩
        simp only [Instr.build, Sem.run_bind, hzr, Result.andThen_ok, run_underlying hg]
        rw [run_mapM_array P w _ g gs hrun]
        simp only [Result.andThen_ok, e, hrs, Sem.run_pure]
      · cases hr
    · rename_i n e zs hd hz
      split at hr
      · rename_i ei hei
        obtain ⟨c, hc, rfl⟩ := Option.map_eq_some_iff.1 hr
        obtain ⟨zx, hzr, hzv⟩ := hT.zeroV ht hz w
        have hzR := (V.of_sound N ρ zx _ hzv).cells
        obtain ⟨rs, hrs, hv⟩ := xfill_sound (ρ := ρ) (fun i => some (i * ei.size, ei.size)) parts us.toList zs zx.cells c hp.1 hp.2 hzR hc
        refine ⟨.agg rs, ?_, rs, rfl, hv⟩
        simp only [Instr.build, Sem.run_bind, hzr, Result.andThen_ok, run_underlying (hT.arr ht hd), hT.size hei, hrs, Sem.run_pure]
      · cases hr
    · cases hr
  · cases hr

/-! ### builtins that only read -/

def xlen (T : TT) (h : Hp) (t : TypeId) (x : V) : Option V :=
  match T t with
  | some ti =>
    match ti.d, x with
    | .str, .str s => some (.int .i64 s.length)
    | .slc _, .slc _ n _ => some (.int .i64 n)
    | .arr n _, _ => some (.int .i64 n)
    | .map _ _, .map none => some (.int .i64 0)
    | .map _ _, .map (some i) =>
      match h.get i with
      | some (.map es _) => some (.int .i64 es.length)
      | _ => none
    | _, _ => none
  | none => none

theorem xlen_sound (hT : TTok P T) (s : Sat B ρ h w) {t ty : TypeId} {x : V} {u : Value} {r : V} (hx : VR h.next ρ x u) (hr : xlen T h t x = some r) :
    ∃ z, (Builtin.len_ #[t] ty #[u]).run P w = .ok z w ∧ VR h.next ρ r z := by
  unfold xlen at hr
  split at hr
  · rename_i ti ht
    split at hr
    · rename_i str hd
      cases hr
      rw [show u = _ from hx]
      have hsz : (ByteArray.mk str.toArray).size = str.length := by simp [ByteArray.size]
      exact ⟨.int .i64 str.length, by simp only [Builtin.len_, List.getElem?_toArray, List.getElem?_cons_zero, Sem.run_bind, run_underlying (hT.str ht hd), goInt, hsz, Result.andThen_ok, Sem.run_pure], rfl⟩
    · rename_i e a n f hd
      cases hr
      cases a with
      | none =>
        obtain ⟨rfl, rfl⟩ := hx
        exact ⟨_, by simp [Builtin.len_, Sem.run_bind, run_underlying (hT.slc ht hd), goInt], rfl⟩
      | some a =>
        obtain ⟨_, a, cap, rfl, _⟩ := hx
        exact ⟨_, by simp [Builtin.len_, Sem.run_bind, run_underlying (hT.slc ht hd), goInt], rfl⟩
    · rename_i n e hd
      cases hr
      exact ⟨_, by simp [Builtin.len_, Sem.run_bind, run_underlying (hT.arr ht hd), goInt], rfl⟩
    · rename_i k e hd
      cases hr
      rw [show u = _ from hx]
      exact ⟨_, by simp [Builtin.len_, Sem.run_bind, run_underlying (hT.map ht hd), goInt], rfl⟩
    · rename_i k e i hd
      obtain ⟨_, rfl⟩ := hx
      split at hr
      · rename_i es clk hg
        cases hr
        obtain ⟨ms, hb, hes⟩ := s.map hg
        have hl := hes.length
        simp only [Array.length_toList] at hl
        exact ⟨.int .i64 es.length, by simp [Builtin.len_, Sem.run_bind, run_underlying (hT.map ht hd), goInt, MapKept.run_getObj_map hb, hl], rfl⟩
      · cases hr
    · cases hr
  · cases hr

def xmin2 : V → V → Option V
  | .int k x, .int _ y => some (.int k (bif ltI y x then y else x))
  | .flt k x, .flt _ y => (fMin k x y).map (V.flt k)
  | _, _ => none
def xmax2 : V → V → Option V
  | .int k x, .int _ y => some (.int k (bif ltI x y then y else x))
  | _, _ => none
def xfold (f : V → V → Option V) (x : V) : List V → Option V
  | [] => some x
  | y :: r => match f x y with
    | some z => xfold f z r
    | none => none

theorem xfold_sound {N : Nat} (w : World) {f : V → V → Option V} {g : Value → Value → Sem Value} (hf : ∀ x y u v r, VR N ρ x u → VR N ρ y v → f x y = some r → ∃ z, (g u v).run P w = .ok z w ∧ VR N ρ r z) :
    ∀ (l : List V) (us : List Value) (x : V) (u : Value) (r : V), VR N ρ x u → VRs N ρ l us → xfold f x l = some r → ∃ z, (us.foldlM g u).run P w = .ok z w ∧ VR N ρ r z
  | [], us, x, u, r, hx, hl, hr => by
    simp [xfold] at hr; subst hr
    rw [show us = [] from hl]
    exact ⟨u, by simp, hx⟩
  | y :: l, us, x, u, r, hx, hl, hr => by
    obtain ⟨v, us', rfl, hv, hl'⟩ := hl
    unfold xfold at hr
    split at hr
    · rename_i z hz
      obtain ⟨zu, h1, h2⟩ := hf _ _ _ _ _ hx hv hz
      obtain ⟨zr, h3, h4⟩ := xfold_sound w hf l us' z zu r h2 hl' hr
      exact ⟨zr, by simp only [List.foldlM_cons, Sem.run_bind, h1, Result.andThen_ok, h3], h4⟩
    · cases hr

theorem xmin2_sound {N : Nat} (w : World) (x y : V) (u v : Value) (r : V) (hx : VR N ρ x u) (hy : VR N ρ y v) (hr : xmin2 x y = some r) : ∃ z, (Builtin.min2 u v).run P w = .ok z w ∧ VR N ρ r z := by
  unfold xmin2 at hr
  split at hr
  · cases hr; rw [show u = _ from hx, show v = _ from hy]; exact ⟨_, by simp [Builtin.min2, ltI_eq, Bool.cond_decide], rfl⟩
  · rename_i k x k' y
    rw [show u = _ from hx, show v = _ from hy]
    unfold fMin at hr
    cases ho : k.format.order x y with
    | none => rw [ho] at hr; cases hr
    | some o =>
      rw [ho] at hr
      cases o <;> cases hr <;> exact ⟨_, by simp [Builtin.min2, ho], rfl⟩
  · cases hr
theorem xmax2_sound {N : Nat} (w : World) (x y : V) (u v : Value) (r : V) (hx : VR N ρ x u) (hy : VR N ρ y v) (hr : xmax2 x y = some r) : ∃ z, (Builtin.max2 u v).run P w = .ok z w ∧ VR N ρ r z := by
  unfold xmax2 at hr
  split at hr
  · cases hr; rw [show u = _ from hx, show v = _ from hy]; exact ⟨_, by simp [Builtin.max2, ltI_eq, Bool.cond_decide], rfl⟩
  · cases hr

end
end Go.Vex
