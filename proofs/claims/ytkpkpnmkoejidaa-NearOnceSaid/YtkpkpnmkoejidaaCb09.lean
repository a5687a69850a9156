/-
  Who is near (layer 9): the contracts of Find and Hear.
-/
import Derived.Test.YtkpkpnmkoejidaaVexEE
import Derived.Test.YtkpkpnmkoejidaaVexFF
import Derived.Test.YtkpkpnmkoejidaaVexGG
import Derived.Test.YtkpkpnmkoejidaaTab09
import Derived.Test.YtkpkpnmkoejidaaXa09
import Derived.Test.YtkpkpnmkoejidaaCa09
set_option linter.unusedVariables false
set_option linter.unusedSimpArgs false
namespace Go.Vex.Nr
open Go.Proofs

theorem t36 : ∃ ti ei, T 36 = some ti ∧ ti.d = .slc 24 ∧ T 24 = some ei ∧ ei.size = 1 ∧ ei.bytes ≤ 64 ∧ zok ei = true := ⟨_, _, rfl, rfl, rfl, rfl, by decide, rfl⟩

theorem app36 {n : Nat} {a : Option (Nat × Nat)} {f : Bool} {rows : List (List V)} {g : Hp} {G : List Nat} {c : V} (ho : Own 1 a n rows g G) (hw : g.wf) (hl : n ≤ 100000000) : ∃ h', xapp T (g.alloc (.row [c] 1 false)) 36 36 (.slc a n f) (.slc (some (g.next, 0)) 1 true) = some (.slc (some (g.next + 1, 0)) (n + 1) false, h') ∧
      Own 1 (some (g.next + 1, 0)) (n + 1) (rows ++ [[c]]) h' [g.next + 1] ∧ (∀ j, j < g.next → j ∉ G → h'.get j = g.get j) ∧ g.next + 1 < h'.next ∧ h'.wf := by
  obtain ⟨ti, ei, ht, hd, he, hs, hb, hz⟩ := t36
  have q := Quiet.alloc hw (.row [c] 1 false)
  have ho' := (Own.rep _ _ _ _).stay hw ho q.same
  have hcc : (g.alloc (.row [c] 1 false)).get g.next = some (.row [c] 1 false) := Hp.get_alloc_self
  have hud : ∀ k, ti.d ≠ .int k := fun k e => by rw [hd] at e; cases e
  have hmul : (n + 1) * ei.bytes ≤ 100000001 * 64 := Nat.mul_le_mul (by omega) hb
  obtain ⟨h', hx, ho2, u, wf⟩ := ho'.app (f := f) q.wf ht hd ht hud he hs (by omega) hz (news := [[c]]) (xnews_one hcc rfl) (by simp) (by simp) (by simp only [List.length_singleton]; omega) (by simp; omega)
  have hnx : (g.alloc (.row [c] 1 false)).next = g.next + 1 := Hp.alloc_next _ _
  rw [hnx] at hx ho2
  refine ⟨h', hx, ho2, fun j hj hG => ?_, ?_, wf⟩
  · rw [u.same j (by omega) hG]; exact q.same j hj
  · exact (Own.rep _ _ _ _).lt wf ho2 (by simp)

section
variable {n : Nat} {S : NS} {h : Hp} {F : List Nat} {m : Nat} {om : O} {pm : List (Int × Nat)} {fp : Int → List Nat}

/-- one more waits -/
theorem wait_tail {g : Hp} (hw : g.wf) (hn : g.get n = some (.row (nRow S m) 1 false)) {q : Nat} {e : En} {x : Option (Nat × Nat)} {f : Bool} {G' : List Nat} (hq : g.get q = some (.row (eRow e x f) 1 false)) (ho : Own 1 x e.ws.length (uRows e.ws) g G') (hne : n ≠ q) (hnG : n ∉ G') (hqG : q ∉ G') (hl : e.ws.length ≤ 1000000) (num : Int) {K : Hp → Prop}
    (hK : ∀ g', g'.get n = some (.row (nRow { S with held := IntKind.i64.wrap (S.held + 1) } m) 1 false) → EnR q { e with ws := e.ws ++ [num] } g' [q, g.next + 1] → (∀ j, j < g.next → j ≠ n → j ≠ q → j ∉ G' → g'.get j = g.get j) → g.next ≤ g'.next → g'.wf → K g') :
    onS (some (q, 0)) fun i7 o7 => ∃ (a5 : Option (Nat × Nat)) (n15 : Nat) (f3 : Bool), g.ld i7 (o7 + 4) = some (.slc a5 n15 f3) ∧ ∀ h7, h7 = g.alloc (.row [.int .u64 num] 1 false) → ∃ (p1 : Option (Nat × Nat)) (n16 : Nat) (f4 : Bool) (h8 : Hp), xapp T h7 36 36 (.slc a5 n15 f3) (.slc (some (g.next, 0)) 1 true) = some (.slc p1 n16 f4, h8) ∧
      onS (some (q, 0)) fun i8 o8 => ∃ h9, h8.st i8 (o8 + 4) [.slc p1 n16 f4] = some h9 ∧ ∃ n17, h9.ld n 8 = some (.int .i64 n17) ∧ ∃ h10, h9.st n 8 [.int .i64 (IntKind.i64.wrap (n17 + 1))] = some h10 ∧ K h10 := by
  have hnl := hw _ _ hn
  have hql := hw _ _ hq
  refine ⟨x, e.ws.length, f, by rw [Hp.ld_of hq]; rfl, ?_⟩
  rintro h7 rfl
  obtain ⟨g1, hx, o1, s1, l1, w1⟩ := app36 (f := f) (c := .int .u64 num) ho hw (by omega)
  have gq : g1.get q = some (.row (eRow e x f) 1 false) := by rw [s1 q hql hqG]; exact hq
  have gn : g1.get n = some (.row (nRow S m) 1 false) := by rw [s1 n hnl hnG]; exact hn
  refine ⟨_, _, _, g1, hx, _, Hp.st_of gq (Nat.le_of_ble_eq_true rfl), ?_⟩
  obtain ⟨g2, hg2⟩ : ∃ g2, g2 = g1.set q (.row (splice (eRow e x f) (0 + 4) [.slc (some (g.next + 1, 0)) (e.ws.length + 1) false]) 1 false) := ⟨_, rfl⟩
  have gq2 : g2.get q = some (.row (eRow { e with ws := e.ws ++ [num] } (some (g.next + 1, 0)) false) 1 false) := by rw [hg2, Hp.get_set_self]; simp [eRow, splice]
  have s2 : ∀ j, j ≠ q → g2.get j = g1.get j := fun j hj => by rw [hg2]; exact Hp.get_set_ne hj
  have n2 : g2.next = g1.next := by rw [hg2]; rfl
  have w2 : g2.wf := by rw [hg2]; exact w1.set (by omega)
  rw [← hg2]
  clear hg2
  have gn2 : g2.get n = some (.row (nRow S m) 1 false) := by rw [s2 n hne]; exact gn
  refine ⟨S.held, by rw [Hp.ld_of gn2]; rfl, _, Hp.st_of gn2 (Nat.le_of_ble_eq_true rfl), ?_⟩
  have s3 : ∀ j, j ≠ n → (g2.set n (.row (splice (nRow S m) 8 [.int .i64 (IntKind.i64.wrap (S.held + 1))]) 1 false)).get j = g2.get j := fun j hj => Hp.get_set_ne hj
  refine hK _ (by rw [Hp.get_set_self]; rfl) ⟨_, _, [g.next + 1], by rw [s3 q (Ne.symm hne)]; exact gq2, ?_, rfl, by simp; omega⟩ (fun j hj h1 h2 h3 => by rw [s3 j h1, s2 j h2, s1 j hj h3]) (by show g.next ≤ g2.next; omega) (w2.set (by omega))
  have e1 : uRows (e.ws ++ [num]) = uRows e.ws ++ [[.int .u64 num]] := by simp [uRows]
  have e2 : (e.ws ++ [num]).length = e.ws.length + 1 := by simp
  rw [e1, e2]
  exact (Own.rep _ _ _ _).loc _ _ _ (fun j hj => by rw [List.mem_singleton] at hj; subst hj; rw [s3 _ (by omega), s2 _ (by omega)]) o1

def eNew : En := ⟨1, 0, 0, 0, []⟩

def findG (S : NS) (ip num : Int) : (Int × Bool × Bool × Int) × NS :=
  match mget S.es ip with
  | some e => if e.st ≠ 1 then ((e.mac, true, e.st == 3 && e.asked == 0, 0), if (e.st == 3 && e.asked == 0) = true then { S with es := mput S.es ip (askE S e) } else S)
    else if ¬ (e.ws.length : Int) < S.cf.each ∨ ¬ S.held < S.cf.waits then ((0, false, false, 6), S)
    else ((0, false, false, 0), { S with held := IntKind.i64.wrap (S.held + 1), es := mput S.es ip { e with ws := e.ws ++ [num] } })
  | none => if ¬ (S.es.length : Int) < S.cf.most ∨ ¬ 0 < S.cf.each ∨ ¬ S.held < S.cf.waits then ((0, false, false, 6), S)
    else ((0, false, true, 0), { S with held := IntKind.i64.wrap (S.held + 1), es := mput S.es ip { askE S eNew with ws := [num] } })

def findF (S : NS) (ip num now : Int) : (Int × Bool × Bool × Int) × NS := findG (timeF S now) ip num

def WsOk (S : NS) : Prop := ∀ ip e, mget S.es ip = some e → e.ws.length ≤ 100000

theorem find_spec (hw : h.wf) (r : NearR n S h F) (wo : WsOk S) (ip num now : Int) : XCalls Try.prog 8 [.ptr (some (n, 0)), .int .u32 ip, .int .u64 num, .int .i64 now] h fun v h' => v = .tup [.int .u64 (findF S ip num now).1.1, .bool (findF S ip num now).1.2.1, .bool (findF S ip num now).1.2.2.1, .int .i64 (findF S ip num now).1.2.2.2] ∧
    ∃ F', NearR n (findF S ip num now).2 h' F' ∧ Upd h h' F F' ∧ h'.wf := by
  obtain ⟨m, om, pm, fp, a, rfl⟩ := r
  refine XCalls.cps fun K hK => ?_
  apply x8; unfold X8
  refine (none_spec a).mono ?_
  rintro _ _ ⟨rfl, rfl⟩
  rename_i h
  refine ⟨_, rfl, ?_⟩
  refine (time_spec a hw now).mono ?_
  rintro _ h2 ⟨rfl, a2, s2, n2, w2⟩
  obtain ⟨S1, hS1⟩ : ∃ S1, S1 = timeF S now := ⟨_, rfl⟩
  have hcf : S1.cf = S.cf := by rw [hS1]; rfl
  have hhe : S1.held = S.held := by rw [hS1]; rfl
  have hes : S1.es = S.es := by rw [hS1]; rfl
  rw [← hS1] at a2
  have u2 : ∀ j, j < h.next → j ∉ foot n m pm fp → h2.get j = h.get j := fun j hj hF => s2 j (fun e => hF (mem_foot.2 (.inl e)))
  have nn2 := a2.nn w2
  have mn2 := a2.mn w2
  refine ⟨some m, by rw [Hp.ld_of a2.row]; rfl, _, _, a2.look2 ip, ?_⟩
  cases hq : mget pm ip with
  | none =>
    have hno := (a2.both ip).1 hq
    have hF1 : findF S ip num now = if ¬ (S1.es.length : Int) < S1.cf.most ∨ ¬ 0 < S1.cf.each ∨ ¬ S1.held < S1.cf.waits then ((0, false, false, 6), S1) else ((0, false, true, 0), { S1 with held := IntKind.i64.wrap (S1.held + 1), es := mput S1.es ip { askE S1 eNew with ws := [num] } }) := by
      unfold findF; rw [← hS1]; unfold findG; rw [hno]
    refine ⟨fun vs g => match vs with
      | [] => g = h2
      | _ => False, ⟨by trivial, rfl⟩, ?_⟩
    rintro bs2 h2 rfl
    have q3 := Quiet.alloc w2 (.row (eRow eNew none true) 1 false)
    have g3q : (h2.alloc (.row (eRow eNew none true) 1 false)).get h2.next = some (.row (eRow eNew none true) 1 false) := Hp.get_alloc_self
    have n3 : (h2.alloc (.row (eRow eNew none true) 1 false)).next = h2.next + 1 := Hp.alloc_next _ _
    refine ⟨fun vs g => match vs with
      | [.ptr x] => x = some (h2.next, 0) ∧ g = h2.alloc (.row (eRow eNew none true) 1 false)
      | _ => False, ?_, ?_⟩
    · rintro g4 rfl
      exact ⟨by trivial, rfl, rfl⟩
    rintro bs3 _ h4 ⟨rfl, rfl⟩
    generalize hh3 : h2.alloc (.row (eRow eNew none true) 1 false) = h3 at *
    have a3 : NearAt n S1 h3 m om pm fp := a2.loc fun j hj => q3.same j (a2.lt w2 j hj)
    have s3 : ∀ j, j < h.next → j ∉ foot n m pm fp → h3.get j = h.get j := fun j hj hF => by rw [q3.same j (by omega)]; exact u2 j hj hF
    have full : (¬ (S1.es.length : Int) < S1.cf.most ∨ ¬ 0 < S1.cf.each ∨ ¬ S1.held < S1.cf.waits) → K (.tup [.int .u64 0, .bool false, .bool false, .int .i64 6]) h3 := fun hc => hK _ _ (by
      rw [hF1, if_pos hc]
      exact ⟨rfl, _, ⟨m, om, pm, fp, a3, rfl⟩, ⟨s3, fun j hj => .inl hj, by omega⟩, q3.wf⟩)
    refine ⟨fun vs g => match vs with
      | [] => g = h3 ∧ ¬ (¬ (S1.es.length : Int) < S1.cf.most ∨ ¬ 0 < S1.cf.each ∨ ¬ S1.held < S1.cf.waits)
      | _ => False, ?_, ?_⟩
    · refine ⟨some m, by rw [Hp.ld_of a3.row]; rfl, pm.length, a3.mo.len mtN h3 m a3.omg, S1.cf.most, by rw [Hp.ld_of a3.row]; rfl, ?_⟩
      rw [a3.len]
      cases c1 : ltI (↑S1.es.length) S1.cf.most with
      | false =>
        rw [ltI_eq, decide_eq_false_iff_not] at c1
        exact full (.inl c1)
      | true =>
        rw [ltI_eq, decide_eq_true_eq] at c1
        refine ⟨none, 0, true, by rw [Hp.ld_of g3q]; rfl, S1.cf.each, by rw [Hp.ld_of a3.row]; rfl, ?_⟩
        cases c2 : ltI (((0 : Nat) : Int)) S1.cf.each with
        | false =>
          rw [ltI_eq, decide_eq_false_iff_not] at c2
          exact full (.inr (.inl c2))
        | true =>
          rw [ltI_eq, decide_eq_true_eq] at c2
          refine ⟨S1.held, by rw [Hp.ld_of a3.row]; rfl, S1.cf.waits, by rw [Hp.ld_of a3.row]; rfl, ?_⟩
          cases c3 : ltI S1.held S1.cf.waits with
          | false =>
            rw [ltI_eq, decide_eq_false_iff_not] at c3
            exact full (.inr (.inr c3))
          | true =>
            rw [ltI_eq, decide_eq_true_eq] at c3
            exact ⟨by trivial, rfl, by omega⟩
    rintro bs4 h3 ⟨rfl, hc⟩
    rw [if_neg hc] at hF1
    clear full
    -- it comes, and is asked
    obtain ⟨om4, mo4, hput⟩ := a3.mo.put mtN ip h2.next
    have hx4 := hput h3 m a3.omg
    have mn3 := a3.mn q3.wf
    have g4 : ∀ j, j ≠ m → (h3.set m om4).get j = h3.get j := fun j hj => Hp.get_set_ne hj
    have w4 : (h3.set m om4).wf := q3.wf.set mn3
    have g4m : (h3.set m om4).get m = some om4 := Hp.get_set_self
    have n4 : (h3.set m om4).next = h3.next := rfl
    refine ⟨fun vs g => match vs with
      | [] => g.get m = some om4 ∧ g.get h2.next = some (.row (eRow (askE S1 eNew) none true) 1 false) ∧ (∀ j, j ≠ m → j ≠ h2.next → g.get j = h3.get j) ∧ g.next = h3.next ∧ g.wf
      | _ => False, ?_, ?_⟩
    · refine ⟨some m, by rw [Hp.ld_of a3.row]; rfl, _, hx4, ?_⟩
      generalize h3.set m om4 = h4 at *
      refine (ask_spec (S := S1) (m := m) (e := eNew) (x := none) (f := true) w4 (by rw [g4 n a.nm]; exact a3.row) (by rw [g4 _ (by omega)]; exact g3q) (by omega)).mono ?_
      rintro _ h5 ⟨rfl, gq5, s5, n5, w5⟩
      exact ⟨by trivial, by rw [s5 m (by omega)]; exact g4m, gq5, fun j h1 h2 => by rw [s5 j h2, g4 j h1], by omega, w5⟩
    rintro bs5 h5 ⟨gm5, gq5, s5, n5, w5⟩
    have gn5 : h5.get n = some (.row (nRow S1 m) 1 false) := by rw [s5 n a.nm (by omega)]; exact a3.row
    refine wait_tail (S := S1) (m := m) (e := askE S1 eNew) (x := none) (f := true) (G' := []) w5 gn5 gq5 (Own.nil _ _) (by omega) (by simp) (by simp) (by simp [askE, eNew]) num ?_
    intro g' gn' en' s' l' w'
    have hne : ∀ x, x ≠ ip → mget pm x ≠ none → ∀ j ∈ fp x, g'.get j = h3.get j ∧ j < h2.next := fun x hx hm j hj => by
      have hjF : j ∈ foot n m pm fp := mem_foot.2 (.inr (.inr ⟨x, hm, hj⟩))
      have hjl := a2.lt w2 j hjF
      have ho := a.out x hm
      have h1 : j ≠ n := fun e => ho.1 (e ▸ hj)
      have h2' : j ≠ m := fun e => ho.2 (e ▸ hj)
      exact ⟨by rw [s' j (by omega) h1 (by omega) (by simp), s5 j h2' (by omega)], hjl⟩
    refine hK _ _ ?_
    rw [hF1]
    refine ⟨rfl, _, ⟨m, om4, mput pm ip h2.next, _, a3.re ip [h2.next, h5.next + 1] gn' ?_ mo4 ?_ ?_ (fun x hx => ⟨by rw [mget_mput, if_neg hx], by show mget (mput S1.es ip _) x = _; rw [mget_mput, if_neg hx]⟩) (fun q' hq' => ?_) (fun x hx hm j hj => (hne x hx hm j hj).1), rfl⟩, ?_, w'⟩
    · rw [s' m (by omega) (Ne.symm a.nm) (by omega) (by simp)]; exact gm5
    · show (mput pm ip h2.next).map Prod.fst = (mput S1.es ip _).map Prod.fst
      rw [mput_none _ _ _ hq, mput_none _ _ _ hno, List.map_append, List.map_append, a3.keys]; rfl
    · rw [mput_none _ _ _ hq, List.map_append, List.nodup_append]
      refine ⟨a.nd, by simp, fun x hx y hy => ?_⟩
      simp only [List.map_cons, List.map_nil, List.mem_singleton] at hy
      subst hy
      exact fun e => (mget_mem pm x).2 hx (e ▸ hq)
    · rw [mget_mput, if_pos rfl] at hq'
      cases hq'
      refine ⟨{ askE S1 eNew with ws := [num] }, by show mget (mput S1.es ip _) ip = _; rw [mget_mput, if_pos rfl], en', by simp; omega, by simp; omega, fun x hx hm j hj hjx => ?_⟩
      have := (hne x hx hm j hjx).2
      simp at hj
      omega
    · refine ⟨fun j hj hF => ?_, fun j hj => ?_, by omega⟩
      · rw [s' j (by omega) (fun e => hF (mem_foot.2 (.inl e))) (by omega) (by simp), s5 j (fun e => hF (mem_foot.2 (.inr (.inl e)))) (by omega)]
        exact s3 j hj hF
      · rcases mem_foot_re (pm := pm) (fun x hx => by rw [mget_mput, if_neg hx]) hj with h1 | h1
        · exact .inl h1
        · simp at h1; exact .inr (by omega)
  | some q =>
    obtain ⟨e, he, hen⟩ := a2.ent ip q hq
    obtain ⟨x, f, G', gq, ho, hG, hqG⟩ := hen
    have hip : mget pm ip ≠ none := by rw [hq]; simp
    have hout := a.out ip hip
    have hnq : n ≠ q := fun e => hout.1 (by rw [hG]; simp [e])
    have hmq : m ≠ q := fun e => hout.2 (by rw [hG]; simp [e])
    have hql := w2 _ _ gq
    have hqF : q ∈ foot n m pm fp := mem_foot.2 (.inr (.inr ⟨ip, hip, by rw [hG]; simp⟩))
    have hF1 : findF S ip num now = if e.st ≠ 1 then ((e.mac, true, e.st == 3 && e.asked == 0, 0), if (e.st == 3 && e.asked == 0) = true then { S1 with es := mput S1.es ip (askE S1 e) } else S1)
        else if ¬ (e.ws.length : Int) < S1.cf.each ∨ ¬ S1.held < S1.cf.waits then ((0, false, false, 6), S1)
        else ((0, false, false, 0), { S1 with held := IntKind.i64.wrap (S1.held + 1), es := mput S1.es ip { e with ws := e.ws ++ [num] } }) := by
      unfold findF; rw [← hS1]; unfold findG; rw [he]
    have keysE : ∀ e' : En, pm.map Prod.fst = (mput S1.es ip e').map Prod.fst := fun e' => by rw [mput_some _ _ _ (by rw [he]; simp)]; exact a2.keys
    -- the entry turned: what else stands there stays
    have fin : ∀ (S' : NS) (e' : En) (g' : Hp) (G2 : List Nat), S'.es = mput S1.es ip e' → g'.get n = some (.row (nRow S' m) 1 false) → EnR q e' g' G2 → (∀ j ∈ G2, j = q ∨ h2.next ≤ j ∨ j ∈ G') → (∀ j, j < h2.next → j ≠ n → j ≠ q → j ∉ G' → g'.get j = h2.get j) → h2.next ≤ g'.next → g'.wf →
        ∃ F', NearR n S' g' F' ∧ Upd h g' (foot n m pm fp) F' ∧ g'.wf := by
      intro S' e' g' G2 hes' gn' en' hG2 s' l' w'
      have hdis : ∀ y, y ≠ ip → mget pm y ≠ none → ∀ j ∈ fp y, j ≠ n ∧ j ≠ m ∧ j ≠ q ∧ j ∉ G' ∧ j < h2.next := fun y hy hm j hj => by
        have ho := a.out y hm
        have hd := a.dis y ip hy hm hip j hj
        rw [hG] at hd
        simp only [List.mem_cons, not_or] at hd
        exact ⟨fun e => ho.1 (e ▸ hj), fun e => ho.2 (e ▸ hj), hd.1, hd.2, a2.lt w2 j (mem_foot.2 (.inr (.inr ⟨y, hm, hj⟩)))⟩
      have hmG : m ∉ G' := fun hh => hout.2 (by rw [hG]; exact List.mem_cons_of_mem _ hh)
      have hnG : n ∉ G' := fun hh => hout.1 (by rw [hG]; exact List.mem_cons_of_mem _ hh)
      refine ⟨_, ⟨m, om, pm, _, a2.re (S' := S') ip G2 gn' (by rw [s' m mn2 (Ne.symm a.nm) hmq hmG]; exact a2.omg) a.mo (by rw [hes']; exact keysE e') a.nd (fun y hy => ⟨rfl, by rw [hes', mget_mput, if_neg hy]⟩) (fun q' hq' => ?_) (fun y hy hm j hj => by
        obtain ⟨h1, h2, h3, h4, h5⟩ := hdis y hy hm j hj
        exact s' j h5 h1 h3 h4), rfl⟩, ⟨fun j hj hF => ?_, fun j hj => ?_, by omega⟩, w'⟩
      · rw [hq] at hq'
        cases hq'
        refine ⟨e', by rw [hes', mget_mput, if_pos rfl], en', fun hh => ?_, fun hh => ?_, fun y hy hm j hj hjy => ?_⟩
        · rcases hG2 n hh with h1 | h1 | h1
          · exact hnq h1
          · omega
          · exact hnG h1
        · rcases hG2 m hh with h1 | h1 | h1
          · exact hmq h1
          · omega
          · exact hmG h1
        · obtain ⟨h1, h2, h3, h4, h5⟩ := hdis y hy hm j hjy
          rcases hG2 j hj with h6 | h6 | h6
          · exact h3 h6
          · omega
          · exact h4 h6
      · rw [s' j (by omega) (fun e => hF (mem_foot.2 (.inl e))) (fun e => hF (e ▸ hqF)) (fun hh => hF (mem_foot.2 (.inr (.inr ⟨ip, hip, by rw [hG]; exact List.mem_cons_of_mem _ hh⟩))))]
        exact u2 j hj hF
      · rcases mem_foot_re (pm := pm) (fun _ _ => rfl) hj with h1 | h1
        · exact .inl h1
        · rcases hG2 j h1 with h2 | h2 | h2
          · exact .inl (h2 ▸ hqF)
          · exact .inr (by omega)
          · exact .inl (mem_foot.2 (.inr (.inr ⟨ip, hip, by rw [hG]; exact List.mem_cons_of_mem _ h2⟩)))
    have stay : ∃ F', NearR n S1 h2 F' ∧ Upd h h2 (foot n m pm fp) F' ∧ h2.wf := ⟨_, ⟨m, om, pm, fp, a2, rfl⟩, ⟨u2, fun j hj => .inl hj, by omega⟩, w2⟩
    by_cases hst : e.st ≠ 1
    · rw [if_pos hst] at hF1
      refine ⟨fun vs g => False, ?_, fun _ _ hh => hh.elim⟩
      refine ⟨e.st, by rw [Hp.ld_of gq]; rfl, ?_⟩
      rw [show (e.st != 1) = true by simpa using hst]
      refine ⟨fun vs g => match vs with
        | [.bool b] => b = (e.st == 3 && e.asked == 0) ∧ (∃ x' f', g.get q = some (.row (eRow (if b = true then askE S1 e else e) x' f') 1 false)) ∧ ∃ F', NearR n (findF S ip num now).2 g F' ∧ Upd h g (foot n m pm fp) F' ∧ g.wf
        | _ => False, ?_, ?_⟩
      · refine ⟨e.st, by rw [Hp.ld_of gq]; rfl, ?_⟩
        cases c3 : e.st == 3 with
        | false =>
          refine ⟨by trivial, rfl, ⟨x, f, gq⟩, ?_⟩
          rw [hF1, c3]
          exact stay
        | true =>
          refine ⟨e.asked, by rw [Hp.ld_of gq]; rfl, ?_⟩
          cases c4 : e.asked == 0 with
          | false =>
            refine ⟨by trivial, rfl, ⟨x, f, gq⟩, ?_⟩
            rw [hF1, c3, c4]
            exact stay
          | true =>
            refine (ask_spec (S := S1) (m := m) (e := e) w2 a2.row gq hnq).mono ?_
            rintro _ h5 ⟨rfl, gq5, s5, n5, w5⟩
            refine ⟨by trivial, rfl, ⟨x, f, gq5⟩, ?_⟩
            rw [hF1, c3, c4]
            refine fin { S1 with es := mput S1.es ip (askE S1 e) } (askE S1 e) h5 (q :: G') rfl ?_ ⟨x, f, G', gq5, (Own.rep _ _ _ _).loc _ _ _ (fun j hj => s5 j (fun e => hqG (e ▸ hj))) ho, rfl, hqG⟩ (fun j hj => by
              rcases List.mem_cons.1 hj with h1 | h1
              · exact .inl h1
              · exact .inr (.inr h1)) (fun j _ _ h2 _ => s5 j h2) (by omega) w5
            rw [s5 n hnq]; exact a2.row
      · rintro bs1 b2 g ⟨rfl, ⟨x', f', gq'⟩, hF'⟩
        refine ⟨e.mac, ?_, hK _ _ ?_⟩
        · rw [Hp.ld_of gq']
          have hmac : (if (e.st == 3 && e.asked == 0) = true then askE S1 e else e).mac = e.mac := by split <;> rfl
          show some (V.int .u64 _) = _
          rw [hmac]
        · refine ⟨?_, hF'⟩
          rw [hF1]
    · have hst1 : e.st = 1 := by omega
      rw [if_neg hst] at hF1
      refine ⟨fun vs g => match vs with
        | [] => g = h2
        | _ => False, ?_, ?_⟩
      · refine ⟨e.st, by rw [Hp.ld_of gq]; rfl, ?_⟩
        rw [hst1]
        exact ⟨by trivial, rfl⟩
      rintro bs2 h2 rfl
      refine ⟨fun vs g => match vs with
        | [.ptr y] => y = some (q, 0) ∧ g = h2
        | _ => False, ⟨by trivial, rfl, rfl⟩, ?_⟩
      rintro bs3 _ h2 ⟨rfl, rfl⟩
      refine ⟨fun vs g => match vs with
        | [] => g = h2 ∧ ¬ (¬ (e.ws.length : Int) < S1.cf.each ∨ ¬ S1.held < S1.cf.waits)
        | _ => False, ?_, ?_⟩
      · refine ⟨x, e.ws.length, f, by rw [Hp.ld_of gq]; rfl, S1.cf.each, by rw [Hp.ld_of a2.row]; rfl, ?_⟩
        have full : (¬ (e.ws.length : Int) < S1.cf.each ∨ ¬ S1.held < S1.cf.waits) → K (.tup [.int .u64 0, .bool false, .bool false, .int .i64 6]) h2 := fun hc => hK _ _ (by
          rw [hF1, if_pos hc]
          exact ⟨rfl, stay⟩)
        cases c2 : ltI (↑e.ws.length) S1.cf.each with
        | false =>
          rw [ltI_eq, decide_eq_false_iff_not] at c2
          exact full (.inl c2)
        | true =>
          rw [ltI_eq, decide_eq_true_eq] at c2
          refine ⟨S1.held, by rw [Hp.ld_of a2.row]; rfl, S1.cf.waits, by rw [Hp.ld_of a2.row]; rfl, ?_⟩
          cases c3 : ltI S1.held S1.cf.waits with
          | false =>
            rw [ltI_eq, decide_eq_false_iff_not] at c3
            exact full (.inr c3)
          | true =>
            rw [ltI_eq, decide_eq_true_eq] at c3
            exact ⟨by trivial, rfl, by omega⟩
      rintro bs4 h2 ⟨rfl, hc⟩
      rw [if_neg hc] at hF1
      refine ⟨fun vs g => match vs with
        | [] => g = h2
        | _ => False, ⟨by trivial, rfl⟩, ?_⟩
      rintro bs5 h2 rfl
      refine wait_tail (S := S1) (m := m) w2 a2.row gq ho hnq (fun hh => hout.1 (by rw [hG]; exact List.mem_cons_of_mem _ hh)) hqG (by have := wo ip e (by rw [← hes]; exact he); omega) num ?_
      intro g' gn' en' s' l' w'
      refine hK _ _ ?_
      rw [hF1]
      exact ⟨rfl, fin { S1 with held := IntKind.i64.wrap (S1.held + 1), es := mput S1.es ip { e with ws := e.ws ++ [num] } } _ g' _ rfl gn' en' (fun j hj => by simp at hj; omega) (fun j hj h1 h2 h3 => s' j hj h1 h2 h3) l' w'⟩
end
end Go.Vex.Nr
