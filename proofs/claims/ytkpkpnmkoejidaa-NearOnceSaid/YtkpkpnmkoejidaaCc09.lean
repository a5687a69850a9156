/-
  Who is near (layer 9): the contract of Hear.
-/
import Derived.Test.YtkpkpnmkoejidaaVexEE
import Derived.Test.YtkpkpnmkoejidaaVexFF
import Derived.Test.YtkpkpnmkoejidaaVexGG
import Derived.Test.YtkpkpnmkoejidaaTab09
import Derived.Test.YtkpkpnmkoejidaaXa09
import Derived.Test.YtkpkpnmkoejidaaCa09
import Derived.Test.YtkpkpnmkoejidaaCb09
set_option linter.unusedVariables false
set_option linter.unusedSimpArgs false
namespace Go.Vex.Nr
open Go.Proofs

section
variable {κ β γ : Type} [DecidableEq κ]
theorem mput_nd {l : List (κ × β)} (h : (l.map Prod.fst).Nodup) (k : κ) (v : β) : ((mput l k v).map Prod.fst).Nodup := by
  cases hg : mget l k with
  | none =>
    rw [mput_none _ _ _ hg, List.map_append, List.nodup_append]
    refine ⟨h, by simp, fun x hx y hy => ?_⟩
    simp only [List.map_cons, List.map_nil, List.mem_singleton] at hy
    subst hy
    exact fun e => (mget_mem l x).2 hx (e ▸ hg)
  | some x => rw [mput_some _ _ _ (by rw [hg]; simp)]; exact h

theorem mput_keys {l : List (κ × β)} {l' : List (κ × γ)} (h : l.map Prod.fst = l'.map Prod.fst) (k : κ) (v : β) (v' : γ) : (mput l k v).map Prod.fst = (mput l' k v').map Prod.fst := by
  have h1 := mget_mem l k
  have h2 := mget_mem l' k
  rw [h] at h1
  cases hg : mget l k with
  | none =>
    have : mget l' k = none := by
      cases hh : mget l' k with
      | none => rfl
      | some x => exact absurd hg (h1.2 (h2.1 (by rw [hh]; simp)))
    rw [mput_none _ _ _ hg, mput_none _ _ _ this, List.map_append, List.map_append, h]; rfl
  | some x =>
    have : mget l' k ≠ none := h2.2 (h1.1 (by rw [hg]; simp))
    rw [mput_some _ _ _ (by rw [hg]; simp), mput_some _ _ _ this, h]
end

section
variable {n : Nat} {S : NS} {h : Hp} {F : List Nat} {m : Nat} {om : O} {pm : List (Int × Nat)} {fp : Int → List Nat}

def eHeard (S : NS) (mac : Int) : En := ⟨2, mac, IntKind.i64.wrap (S.now + S.cf.known), 0, []⟩

def hearG (S : NS) (ip mac : Int) (asked : Bool) : List Int × NS :=
  match mget S.es ip with
  | some e => (e.ws, { S with held := IntKind.i64.wrap (S.held - e.ws.length), es := mput S.es ip (eHeard S mac) })
  | none => if asked = false ∨ ¬ (S.es.length : Int) < S.cf.most then ([], S) else ([], { S with held := IntKind.i64.wrap (S.held - (0 : Nat)), es := mput S.es ip (eHeard S mac) })

def hearF (S : NS) (ip mac : Int) (asked : Bool) (now : Int) : List Int × NS := hearG (timeF S now) ip mac asked

theorem hear_spec (hw : h.wf) (r : NearR n S h F) (ip mac : Int) (asked : Bool) (now : Int) : XCalls Try.prog 11 [.ptr (some (n, 0)), .int .u32 ip, .int .u64 mac, .bool asked, .int .i64 now] h fun v h' => ∃ x f G F', v = .slc x (hearF S ip mac asked now).1.length f ∧ Own 1 x (hearF S ip mac asked now).1.length (uRows (hearF S ip mac asked now).1) h' G ∧
    (∀ j ∈ G, j ∉ F' ∧ (j ∈ F ∨ h.next ≤ j)) ∧ NearR n (hearF S ip mac asked now).2 h' F' ∧ Upd h h' F F' ∧ h'.wf := by
  obtain ⟨m, om, pm, fp, a, rfl⟩ := r
  refine XCalls.cps fun K hK => ?_
  apply x11; unfold X11
  refine (none_spec a).mono ?_
  rintro _ _ ⟨rfl, rfl⟩
  rename_i h
  refine ⟨_, rfl, ?_⟩
  refine (time_spec a hw now).mono ?_
  rintro _ h2 ⟨rfl, a2, s2, n2, w2⟩
  obtain ⟨S1, hS1⟩ : ∃ S1, S1 = timeF S now := ⟨_, rfl⟩
  rw [← hS1] at a2
  have u2 : ∀ j, j < h.next → j ∉ foot n m pm fp → h2.get j = h.get j := fun j hj hF => s2 j (fun e => hF (mem_foot.2 (.inl e)))
  have nn2 := a2.nn w2
  have mn2 := a2.mn w2
  have hF0 : hearF S ip mac asked now = hearG S1 ip mac asked := by rw [hS1]; rfl
  refine ⟨some m, by rw [Hp.ld_of a2.row]; rfl, _, _, a2.look2 ip, ?_⟩
  -- the tail: the entry is put anew
  have tail : ∀ (x : Option (Nat × Nat)) (l : List Int) (f : Bool) (G : List Nat), Own 1 x l.length (uRows l) h2 G → (∀ j ∈ G, j ∈ foot n m pm fp ∧ j ≠ n ∧ j ≠ m ∧ ∀ y, y ≠ ip → mget pm y ≠ none → j ∉ fp y) →
      hearF S ip mac asked now = (l, { S1 with held := IntKind.i64.wrap (S1.held - l.length), es := mput S1.es ip (eHeard S1 mac) }) →
      ∀ g', g' = h2 → ∃ n5, g'.ld n 8 = some (.int .i64 n5) ∧ ∃ h3, g'.st n 8 [.int .i64 (IntKind.i64.wrap (n5 - l.length))] = some h3 ∧ ∃ n6, h3.ld n 7 = some (.int .i64 n6) ∧ ∃ n7, h3.ld n 3 = some (.int .i64 n7) ∧ h3.ld n 6 = some (.map (some m)) ∧
        (∀ h4, h4 = h3.alloc (.row [.int .u8 2, .int .u64 mac, .int .i64 (IntKind.i64.wrap (n6 + n7)), .int .i64 0, .slc none 0 true] 1 false) → h4.ld n 6 = some (.map (some m)) ∧ ∃ h5, xput T h4 52 (.map (some m)) (.int .u32 ip) (.ptr (some (h3.next, 0))) = some h5 ∧ K (.slc x l.length f) h5) := by
    rintro x l f G ho hG hF1 g' hg'
    subst hg'
    obtain ⟨h2, e2⟩ : ∃ h2, h2 = g' := ⟨_, rfl⟩
    subst e2
    have hGl : ∀ j ∈ G, j < h2.next := fun j hj => (Own.rep _ _ _ _).lt w2 ho hj
    refine ⟨S1.held, by rw [Hp.ld_of a2.row]; rfl, _, Hp.st_of a2.row (Nat.le_of_ble_eq_true rfl), ?_⟩
    obtain ⟨h3, hh3⟩ : ∃ h3, h3 = h2.set n (.row (splice (nRow S1 m) 8 [.int .i64 (IntKind.i64.wrap (S1.held - l.length))]) 1 false) := ⟨_, rfl⟩
    have g3 : h3.get n = some (.row (nRow { S1 with held := IntKind.i64.wrap (S1.held - l.length) } m) 1 false) := by rw [hh3, Hp.get_set_self]; rfl
    have s3 : ∀ j, j ≠ n → h3.get j = h2.get j := fun j hj => by rw [hh3]; exact Hp.get_set_ne hj
    have n3 : h3.next = h2.next := by rw [hh3]; rfl
    have w3 : h3.wf := by rw [hh3]; exact w2.set nn2
    rw [← hh3]
    clear hh3
    refine ⟨S1.now, by rw [Hp.ld_of g3]; rfl, S1.cf.known, by rw [Hp.ld_of g3]; rfl, by rw [Hp.ld_of g3]; rfl, ?_⟩
    rintro h4 rfl
    have q4 := Quiet.alloc w3 (.row (eRow (eHeard S1 mac) none true) 1 false)
    have g4 : (h3.alloc (.row (eRow (eHeard S1 mac) none true) 1 false)).get h3.next = some (.row (eRow (eHeard S1 mac) none true) 1 false) := Hp.get_alloc_self
    have n4 : (h3.alloc (.row (eRow (eHeard S1 mac) none true) 1 false)).next = h3.next + 1 := Hp.alloc_next _ _
    show (h3.alloc (.row (eRow (eHeard S1 mac) none true) 1 false)).ld n 6 = _ ∧ ∃ h5, xput T (h3.alloc (.row (eRow (eHeard S1 mac) none true) 1 false)) 52 (.map (some m)) (.int .u32 ip) (.ptr (some (h3.next, 0))) = some h5 ∧ K (.slc x l.length f) h5
    generalize h3.alloc (.row (eRow (eHeard S1 mac) none true) 1 false) = h4 at *
    have g4n : h4.get n = some (.row (nRow { S1 with held := IntKind.i64.wrap (S1.held - l.length) } m) 1 false) := by rw [q4.same n (by omega)]; exact g3
    obtain ⟨om5, mo5, hput⟩ := a2.mo.put mtN ip h3.next
    have g4m : h4.get m = some om := by rw [q4.same m (by omega), s3 m (Ne.symm a.nm)]; exact a2.omg
    refine ⟨by rw [Hp.ld_of g4n]; rfl, _, hput h4 m g4m, ?_⟩
    have g5 : ∀ j, j ≠ m → (h4.set m om5).get j = h4.get j := fun j hj => Hp.get_set_ne hj
    have all : ∀ j, j < h2.next → j ≠ n → j ≠ m → (h4.set m om5).get j = h2.get j := fun j hj h1 h2 => by rw [g5 j h2, q4.same j (by omega), s3 j h1]
    have w5 : (h4.set m om5).wf := q4.wf.set (by omega)
    refine hK _ _ ⟨x, f, G, _, by rw [hF1], by rw [hF1]; exact (Own.rep _ _ _ _).loc _ _ _ (fun j hj => all j (hGl j hj) (hG j hj).2.1 (hG j hj).2.2.1) ho, fun j hj => ?_, by
      rw [hF1]
      exact ⟨m, om5, mput pm ip h3.next, _, a2.re ip [h3.next] (by rw [g5 n a.nm]; exact g4n) Hp.get_set_self mo5 (mput_keys a2.keys _ _ _) (mput_nd a2.nd _ _) (fun y hy => ⟨by rw [mget_mput, if_neg hy], by show mget (mput S1.es ip _) y = _; rw [mget_mput, if_neg hy]⟩) (fun q' hq' => by
        rw [mget_mput, if_pos rfl] at hq'
        cases hq'
        refine ⟨eHeard S1 mac, by show mget (mput S1.es ip _) ip = _; rw [mget_mput, if_pos rfl], ⟨none, true, [], by rw [g5 _ (by omega)]; exact g4, Own.nil _ _, rfl, by simp⟩, by simp; omega, by simp; omega, fun y hy hm j hj hjy => ?_⟩
        have := a2.lt w2 j (mem_foot.2 (.inr (.inr ⟨y, hm, hjy⟩)))
        simp at hj; omega) (fun y hy hm j hj => by
        have ho := a.out y hm
        exact all j (a2.lt w2 j (mem_foot.2 (.inr (.inr ⟨y, hm, hj⟩)))) (fun e => ho.1 (e ▸ hj)) (fun e => ho.2 (e ▸ hj))), rfl⟩, ⟨fun j hj hF => ?_, fun j hj => ?_, by show h.next ≤ h4.next; omega⟩, w5⟩
    · obtain ⟨h1, h2', h3', h4'⟩ := hG j hj
      refine ⟨fun hh => ?_, .inl h1⟩
      rcases mem_foot.1 hh with h5 | h5 | ⟨y, hy, hjy⟩
      · exact h2' h5
      · exact h3' h5
      · by_cases e : y = ip
        · simp only [if_pos e] at hjy
          have := hGl j hj
          simp at hjy; omega
        · simp only [if_neg e] at hjy
          rw [mget_mput, if_neg e] at hy
          exact h4' y e hy hjy
    · rw [all j (by omega) (fun e => hF (mem_foot.2 (.inl e))) (fun e => hF (mem_foot.2 (.inr (.inl e))))]
      exact u2 j hj hF
    · rcases mem_foot_re (pm := pm) (fun y hy => by rw [mget_mput, if_neg hy]) hj with h1 | h1
      · exact .inl h1
      · simp at h1; exact .inr (by omega)
  cases hq : mget pm ip with
  | some q =>
    obtain ⟨e, he, x, f, G', gq, ho, hG, hqG⟩ := a2.ent ip q hq
    have hip : mget pm ip ≠ none := by rw [hq]; simp
    have hF1 : hearF S ip mac asked now = (e.ws, { S1 with held := IntKind.i64.wrap (S1.held - e.ws.length), es := mput S1.es ip (eHeard S1 mac) }) := by rw [hF0]; unfold hearG; rw [he]
    have hout := a.out ip hip
    have t := tail x e.ws f G' ho (fun j hj => ⟨mem_foot.2 (.inr (.inr ⟨ip, hip, by rw [hG]; exact List.mem_cons_of_mem _ hj⟩)), fun e => hout.1 (by rw [hG]; exact List.mem_cons_of_mem _ (e ▸ hj)), fun e => hout.2 (by rw [hG]; exact List.mem_cons_of_mem _ (e ▸ hj)), fun y hy hm hjy => a.dis ip y (Ne.symm hy) hip hm j (by rw [hG]; exact List.mem_cons_of_mem _ hj) hjy⟩) hF1
    refine ⟨fun vs g => match vs with
      | [.slc y k b] => y = x ∧ k = e.ws.length ∧ b = f ∧ g = h2
      | _ => False, ⟨x, e.ws.length, f, by rw [Hp.ld_of gq]; rfl, by trivial, rfl, rfl, rfl, rfl⟩, ?_⟩
    rintro bs1 _ _ _ g' ⟨rfl, rfl, rfl, hg'⟩
    obtain ⟨n5, t1, h3, t2, n6, t3, n7, t4, t5, t6⟩ := t g' hg'
    refine ⟨n5, t1, h3, t2, some m, t5, n6, t3, n7, t4, ?_⟩
    rintro h4 rfl
    obtain ⟨t7, h5, t8, t9⟩ := t6 _ rfl
    exact ⟨by trivial, ⟨some m, t7, rfl⟩, by trivial, by trivial, by trivial, h5, t8, t9⟩
  | none =>
    have hno := (a2.both ip).1 hq
    have hF1 : hearF S ip mac asked now = if asked = false ∨ ¬ (S1.es.length : Int) < S1.cf.most then ([], S1) else ([], { S1 with held := IntKind.i64.wrap (S1.held - (0 : Nat)), es := mput S1.es ip (eHeard S1 mac) }) := by rw [hF0]; unfold hearG; rw [hno]
    have stop : (asked = false ∨ ¬ (S1.es.length : Int) < S1.cf.most) → K (.slc none 0 true) h2 := fun hc => hK _ _ (by
      rw [hF1, if_pos hc]
      exact ⟨none, true, [], _, rfl, Own.nil _ _, by simp, ⟨m, om, pm, fp, a2, rfl⟩, ⟨u2, fun j hj => .inl hj, by omega⟩, w2⟩)
    refine ⟨fun vs g => match vs with
      | [.slc y k b] => y = none ∧ k = 0 ∧ b = true ∧ g = h2 ∧ ¬ (asked = false ∨ ¬ (S1.es.length : Int) < S1.cf.most)
      | _ => False, ?_, ?_⟩
    · cases asked with
      | false => exact stop (.inl rfl)
      | true =>
        refine ⟨some m, by rw [Hp.ld_of a2.row]; rfl, pm.length, a2.mo.len mtN h2 m a2.omg, S1.cf.most, by rw [Hp.ld_of a2.row]; rfl, ?_⟩
        rw [a2.len]
        cases c1 : ltI (↑S1.es.length) S1.cf.most with
        | false =>
          rw [ltI_eq, decide_eq_false_iff_not] at c1
          exact stop (.inr c1)
        | true =>
          rw [ltI_eq, decide_eq_true_eq] at c1
          exact ⟨by trivial, rfl, rfl, rfl, rfl, by simp; omega⟩
    rintro bs1 _ _ _ g' ⟨rfl, rfl, rfl, hg', hc⟩
    rw [if_neg hc] at hF1
    obtain ⟨n5, t1, h3, t2, n6, t3, n7, t4, t5, t6⟩ := tail none [] true [] (Own.nil _ _) (by simp) hF1 g' hg'
    refine ⟨n5, t1, h3, t2, some m, t5, n6, t3, n7, t4, ?_⟩
    rintro h4 rfl
    obtain ⟨t7, h5, t8, t9⟩ := t6 _ rfl
    exact ⟨by trivial, ⟨some m, t7, rfl⟩, by trivial, by trivial, by trivial, h5, t8, t9⟩
end
end Go.Vex.Nr
