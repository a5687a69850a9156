/-
  Who is near (layer 9): the contract of Tick, whole.
-/
import Derived.Test.YtkpkpnmkoejidaaVexEE
import Derived.Test.YtkpkpnmkoejidaaVexFF
import Derived.Test.YtkpkpnmkoejidaaVexGG
import Derived.Test.YtkpkpnmkoejidaaTab09
import Derived.Test.YtkpkpnmkoejidaaXa09
import Derived.Test.YtkpkpnmkoejidaaXs09
import Derived.Test.YtkpkpnmkoejidaaXk09
import Derived.Test.YtkpkpnmkoejidaaCsa09
import Derived.Test.YtkpkpnmkoejidaaCsb09
import Derived.Test.YtkpkpnmkoejidaaCsc09
import Derived.Test.YtkpkpnmkoejidaaCsd09
import Derived.Test.YtkpkpnmkoejidaaCse09
import Derived.Test.YtkpkpnmkoejidaaCa09
import Derived.Test.YtkpkpnmkoejidaaCb09
import Derived.Test.YtkpkpnmkoejidaaCc09
import Derived.Test.YtkpkpnmkoejidaaCd09
import Derived.Test.YtkpkpnmkoejidaaCe09
set_option linter.unusedVariables false
set_option linter.unusedSimpArgs false
namespace Go.Vex.Nr
open Go.Proofs

theorem tick1_get (c : TSt) (ip y : Int) (h : y ≠ ip) : mget (tick1 c ip).S.es y = mget c.S.es y := by
  unfold tick1
  split
  · rfl
  · split
    · rfl
    · split
      · show mget (mput _ _ _) y = _; rw [mget_mput, if_neg h]
      · split
        · exact mget_mdel _ _ _ h
        · show mget (mput _ _ _) y = _; rw [mget_mput, if_neg h]

theorem tick1_asks (c : TSt) (ip : Int) : (tick1 c ip).asks.length ≤ c.asks.length + 1 := by
  unfold tick1
  repeat' split
  all_goals simp

theorem tick1_nd {c : TSt} (hn : (c.S.es.map Prod.fst).Nodup) (ip : Int) : ((tick1 c ip).S.es.map Prod.fst).Nodup := by
  unfold tick1
  split
  · exact hn
  · split
    · exact hn
    · split
      · exact mput_nd hn _ _
      · split
        · exact hn.sublist ((mdel_sub _ _).map _)
        · exact mput_nd hn _ _

theorem tick1_ok {c : TSt} (wo : WsOk c.S) (hn : (c.S.es.map Prod.fst).Nodup) (ip : Int) : WsOk (tick1 c ip).S ∧ (tick1 c ip).lost.length ≤ c.lost.length + 100000 := by
  have put : ∀ (e e' : En), mget c.S.es ip = some e → e'.ws = e.ws → ∀ y x, mget (mput c.S.es ip e') y = some x → x.ws.length ≤ 100000 := by
    intro e e' he hws y x hx
    rw [mget_mput] at hx
    by_cases h : y = ip
    · rw [if_pos h] at hx; cases hx; rw [hws]; exact wo ip e he
    · rw [if_neg h] at hx; exact wo y x hx
  unfold tick1
  split
  · exact ⟨wo, by omega⟩
  · rename_i e he
    split
    · exact ⟨wo, by omega⟩
    · split
      · exact ⟨put e _ he rfl, by show c.lost.length ≤ _; omega⟩
      · split
        · refine ⟨fun y x hx => ?_, by have := wo ip e he; simp; omega⟩
          by_cases h : y = ip
          · subst h
            have h1 : mget (mdel c.S.es y) y = some x := hx
            rw [mget_self _ _ hn] at h1; cases h1
          · have h1 : mget (mdel c.S.es ip) y = some x := hx
            rw [mget_mdel _ _ _ h] at h1; exact wo y x h1
        · exact ⟨put e _ he rfl, by show c.lost.length ≤ _; omega⟩

theorem ticks_facts : ∀ (ks : List Int) (c : TSt), WsOk c.S → (c.S.es.map Prod.fst).Nodup → WsOk (ks.foldl tick1 c).S ∧ ((ks.foldl tick1 c).S.es.map Prod.fst).Nodup ∧ (ks.foldl tick1 c).asks.length ≤ c.asks.length + ks.length ∧ (ks.foldl tick1 c).lost.length ≤ c.lost.length + ks.length * 100000 ∧ ∀ y, y ∉ ks → mget (ks.foldl tick1 c).S.es y = mget c.S.es y
  | [], c, wo, hn => ⟨wo, hn, by simp, by simp, fun y _ => rfl⟩
  | k :: ks, c, wo, hn => by
    obtain ⟨w1, l1⟩ := tick1_ok wo hn k
    obtain ⟨h1, h2, h3, h4, h5⟩ := ticks_facts ks (tick1 c k) w1 (tick1_nd hn k)
    have h6 := tick1_asks c k
    refine ⟨h1, h2, by simp only [List.foldl_cons, List.length_cons]; omega, by simp only [List.foldl_cons, List.length_cons]; omega, fun y hy => ?_⟩
    rw [List.mem_cons, not_or] at hy
    show mget (ks.foldl tick1 (tick1 c k)).S.es y = _
    rw [h5 y hy.2, tick1_get c k y hy.1]

section
variable {n m np s1 s2 L : Nat} {F0 : List Nat} {hb : Nat} {c : TSt} {g : Hp} {om : O} {pm : List (Int × Nat)} {fp : Int → List Nat} {x1 : Option (Nat × Nat)} {f1 : Bool} {G1 : List Nat} {x2 : Option (Nat × Nat)} {f2 : Bool} {G2 : List Nat}

theorem TkAt.stay (fx : Fx n m np s1 s2 L F0 hb) (t : TkAt n m np s1 s2 F0 hb c g om pm fp x1 f1 G1 x2 f2 G2) {g' : Hp} (hs : ∀ j, j ≠ L → g'.get j = g.get j) (hw : g'.wf) (hn : g'.next = g.next) : TkAt n m np s1 s2 F0 hb c g' om pm fp x1 f1 G1 x2 f2 G2 :=
  ⟨t.a.loc fun j hj => hs j (fun e => fx.fL (e ▸ t.sub j hj)), t.sub, by rw [hs s1 (Ne.symm fx.dL1)]; exact t.p1, (Own.rep _ _ _ _).loc _ _ _ (fun j hj => hs j (by have := t.b1 j hj; have := fx.lL; omega)) t.o1, by rw [hs s2 (Ne.symm fx.dL2)]; exact t.p2, (Own.rep _ _ _ _).loc _ _ _ (fun j hj => hs j (by have := t.b2 j hj; have := fx.lL; omega)) t.o2, t.b1, t.b2, t.d, by rw [hs np (Ne.symm fx.dLn)]; exact t.np, hw, by rw [hn]; exact t.le⟩

theorem tick1_none {c : TSt} {ip : Int} {e : En} (he : mget c.S.es ip = some e) (h : c.S.now < e.at') : tick1 c ip = c := by unfold tick1; rw [he]; simp only [if_pos h]
theorem tick1_stale {c : TSt} {ip : Int} {e : En} (he : mget c.S.es ip = some e) (h : ¬ c.S.now < e.at') (h2 : e.st = 2) : tick1 c ip = { c with S := { c.S with es := mput c.S.es ip { e with st := 3, asked := 0, at' := IntKind.i64.wrap (c.S.now + c.S.cf.known) } } } := by unfold tick1; rw [he]; simp only [if_neg h, if_pos h2]
theorem tick1_lose {c : TSt} {ip : Int} {e : En} (he : mget c.S.es ip = some e) (h : ¬ c.S.now < e.at') (h2 : ¬ e.st = 2) (h3 : (e.st = 3 ∧ e.asked = 0) ∨ ¬ e.asked < c.S.cf.asks) : tick1 c ip = { S := { c.S with held := IntKind.i64.wrap (c.S.held - e.ws.length), es := mdel c.S.es ip }, asks := c.asks, lost := c.lost ++ e.ws } := by unfold tick1; rw [he]; simp only [if_neg h, if_neg h2, if_pos h3]
theorem tick1_ask {c : TSt} {ip : Int} {e : En} (he : mget c.S.es ip = some e) (h : ¬ c.S.now < e.at') (h2 : ¬ e.st = 2) (h3 : ¬ ((e.st = 3 ∧ e.asked = 0) ∨ ¬ e.asked < c.S.cf.asks)) : tick1 c ip = { S := { c.S with es := mput c.S.es ip (askE c.S e) }, asks := c.asks ++ [ip], lost := c.lost } := by unfold tick1; rw [he]; simp only [if_neg h, if_neg h2, if_neg h3]
end

section
variable {n : Nat} {S : NS} {h : Hp} {F : List Nat}

set_option maxRecDepth 20000 in
theorem tick_spec (hw : h.wf) (r : NearR n S h F) (wo : WsOk S) (hl : S.es.length ≤ 2000) (now : Int) : XCalls Try.prog 10 [.ptr (some (n, 0)), .int .i64 now] h fun v h' => ∃ (ks : List Int) (x1 : Option (Nat × Nat)) (f1 : Bool) (G1 : List Nat) (x2 : Option (Nat × Nat)) (f2 : Bool) (G2 F' : List Nat),
    v = .tup [.slc x1 (ticks (timeF S now) ks).asks.length f1, .slc x2 (ticks (timeF S now) ks).lost.length f2] ∧ ks.Perm (S.es.map Prod.fst) ∧ Sort.Rising ks ∧ Own 1 x1 (ticks (timeF S now) ks).asks.length (kRows (ticks (timeF S now) ks).asks) h' G1 ∧ Own 1 x2 (ticks (timeF S now) ks).lost.length (uRows (ticks (timeF S now) ks).lost) h' G2 ∧
    (∀ j ∈ G1, h.next ≤ j ∧ j ∉ F') ∧ (∀ j ∈ G2, h.next ≤ j ∧ j ∉ F') ∧ NearR n (ticks (timeF S now) ks).S h' F' ∧ Upd h h' F F' ∧ h'.wf := by
  obtain ⟨m, om, pm, fp, a, rfl⟩ := r
  refine XCalls.cps fun K hK => ?_
  apply x10; unfold X10
  rintro h1 rfl h2 rfl h3 rfl
  have q1 := Quiet.alloc hw (.row [.ptr (some (n, 0))] 1 false)
  have g1 : (h.alloc (.row [.ptr (some (n, 0))] 1 false)).get h.next = some (.row [.ptr (some (n, 0))] 1 false) := Hp.get_alloc_self
  have n1 : (h.alloc (.row [.ptr (some (n, 0))] 1 false)).next = h.next + 1 := Hp.alloc_next _ _
  generalize h.alloc (.row [.ptr (some (n, 0))] 1 false) = h1 at *
  have q2 := Quiet.alloc q1.wf (.row [.slc none 0 true] 1 false)
  have g2 : (h1.alloc (.row [.slc none 0 true] 1 false)).get h1.next = some (.row [.slc none 0 true] 1 false) := Hp.get_alloc_self
  have n2 : (h1.alloc (.row [.slc none 0 true] 1 false)).next = h1.next + 1 := Hp.alloc_next _ _
  generalize h1.alloc (.row [.slc none 0 true] 1 false) = h2 at *
  have q3 := Quiet.alloc q2.wf (.row [.slc none 0 true] 1 false)
  have g3 : (h2.alloc (.row [.slc none 0 true] 1 false)).get h2.next = some (.row [.slc none 0 true] 1 false) := Hp.get_alloc_self
  have n3 : (h2.alloc (.row [.slc none 0 true] 1 false)).next = h2.next + 1 := Hp.alloc_next _ _
  generalize h2.alloc (.row [.slc none 0 true] 1 false) = h3 at *
  have al := a.lt hw
  have q13 : Quiet h h3 := q1.trans (q2.trans q3)
  have a3 : NearAt n S h3 m om pm fp := a.loc fun j hj => q13.same j (al j hj)
  have g3n : h3.get h.next = some (.row [.ptr (some (n, 0))] 1 false) := by rw [q3.same _ (by omega), q2.same _ (by omega)]; exact g1
  have g3a : h3.get h1.next = some (.row [.slc none 0 true] 1 false) := by rw [q3.same _ (by omega)]; exact g2
  refine ⟨some (n, 0), by rw [Hp.ld_of g3n]; rfl, ?_⟩
  refine (none_spec a3).mono ?_
  rintro _ _ ⟨rfl, rfl⟩
  rename_i h3
  refine ⟨_, rfl, some (n, 0), by rw [Hp.ld_of g3n]; rfl, ?_⟩
  refine (time_spec a3 q13.wf now).mono ?_
  rintro _ h7 ⟨rfl, a7, s7, n7, w7⟩
  obtain ⟨S1, hS1⟩ : ∃ S1, S1 = timeF S now := ⟨_, rfl⟩
  rw [← hS1] at a7 hK
  have hes : S1.es = S.es := by rw [hS1]; rfl
  have nF : n ∈ foot n m pm fp := mem_foot.2 (.inl rfl)
  have hnl := al n nF
  have g7n : h7.get h.next = some (.row [.ptr (some (n, 0))] 1 false) := by rw [s7 _ (by omega)]; exact g3n
  have g7a : h7.get h1.next = some (.row [.slc none 0 true] 1 false) := by rw [s7 _ (by omega)]; exact g3a
  have g7b : h7.get h2.next = some (.row [.slc none 0 true] 1 false) := by rw [s7 _ (by omega)]; exact g3
  have u7 : ∀ j, j < h.next → j ∉ foot n m pm fp → h7.get j = h.get j := fun j hj hF => by rw [s7 j (fun e => hF (e ▸ nF)), q13.same j hj]
  refine ⟨some (n, 0), by rw [Hp.ld_of g7n]; rfl, ?_⟩
  refine (each_made n).mono ?_
  rintro _ h8 ⟨rfl, rfl⟩
  refine ⟨_, rfl, ?_⟩
  rintro rec hrec h9 rfl hY
  have q8 := Quiet.alloc w7 (.row [.ptr (some (n, 0))] 1 false)
  have g8 : (h7.alloc (.row [.ptr (some (n, 0))] 1 false)).get h7.next = some (.row [.ptr (some (n, 0))] 1 false) := Hp.get_alloc_self
  have n8 : (h7.alloc (.row [.ptr (some (n, 0))] 1 false)).next = h7.next + 1 := Hp.alloc_next _ _
  generalize h7.alloc (.row [.ptr (some (n, 0))] 1 false) = h8 at *
  have q9a := Quiet.alloc q8.wf (.dfr true)
  have g9a : (h8.alloc (.dfr true)).get h8.next = some (.dfr true) := Hp.get_alloc_self
  have n9a : (h8.alloc (.dfr true)).next = h8.next + 1 := Hp.alloc_next _ _
  generalize h8.alloc (.dfr true) = h9a at *
  have q9b := Quiet.alloc q9a.wf (rec .ready none)
  have g9b : (h9a.alloc (rec .ready none)).get h9a.next = some (rec .ready none) := Hp.get_alloc_self
  have n9b : (h9a.alloc (rec .ready none)).next = h9a.next + 1 := Hp.alloc_next _ _
  generalize h9a.alloc (rec .ready none) = h9 at *
  rw [n9a] at g9b
  have q79 : Quiet h7 h9 := q8.trans (q9a.trans q9b)
  have g9c : h9.get h7.next = some (.row [.ptr (some (n, 0))] 1 false) := by rw [q9b.same _ (by omega), q9a.same _ (by omega)]; exact g8
  have g9d : h9.get h8.next = some (.dfr true) := by rw [q9b.same _ (by omega)]; exact g9a
  have al7 := a7.lt w7
  have a9 : NearAt n S1 h9 m om pm fp := a7.loc fun j hj => q79.same j (al7 j hj)
  obtain ⟨F0, hF0⟩ : ∃ F0, F0 = foot n m pm fp := ⟨_, rfl⟩
  have hF0l : ∀ j ∈ F0, j < h.next := fun j hj => al j (hF0 ▸ hj)
  refine each_spec q79.wf a9 (by rw [hes]; omega) g9c fun ks hs2 hp hri qs => ?_
  have hq2 := qs.le
  have hnd : ks.Nodup := hp.nodup_iff.2 (by rw [← a9.keys]; exact a9.nd)
  have hkn : ks.length ≤ 2000 := by have := hp.length_eq; rw [List.length_map, hes] at this; omega
  have wo1 : WsOk S1 := fun ip e he => wo ip e (by rw [← hes]; exact he)
  have nd1 : (S1.es.map Prod.fst).Nodup := by rw [← a9.keys]; exact a9.nd
  have fx : Fx n m h.next h1.next h2.next (h8.next + 1) F0 hs2.next := ⟨by omega, by omega, by omega, by omega, by omega, by omega, fun hh => by have := hF0l _ hh; omega, fun hh => by have := hF0l _ hh; omega, fun hh => by have := hF0l _ hh; omega, fun hh => by have := hF0l _ hh; omega, by omega, by omega, by omega, by omega, fun j hj => by have := hF0l j hj; omega⟩
  -- the state of a round
  refine ⟨fun i g => ∃ om' pm' fp' x1 f1 G1 x2 f2 G2, TkAt n m h.next h1.next h2.next F0 hs2.next (ticks S1 (ks.take i)) g om' pm' fp' x1 f1 G1 x2 f2 G2 ∧ g.get (h8.next + 1) = some (rec .ready none) ∧ (∀ j, j < hs2.next → j ∉ F0 → j ≠ h8.next + 1 → j ≠ h1.next → j ≠ h2.next → g.get j = hs2.get j), ?_, ?_, ?_⟩
  · refine ⟨om, pm, fp, none, true, [], none, true, [], ⟨a9.loc fun j hj => qs.same j (by have := al7 j hj; omega), fun j hj => hF0 ▸ hj, by rw [qs.same _ (by omega), q79.same _ (by omega)]; exact g7a, Own.nil _ _, by rw [qs.same _ (by omega), q79.same _ (by omega)]; exact g7b, Own.nil _ _, by simp, by simp, by simp, by rw [qs.same _ (by omega), q79.same _ (by omega)]; exact g7n, qs.wf, Nat.le_refl _⟩, by rw [qs.same _ (by omega)]; exact g9b, fun _ _ _ _ _ _ => rfl⟩
  · rintro i g ip ⟨om', pm', fp', x1, f1, G1, x2, f2, G2, t, gL, gs⟩ hip
    have hi : i < ks.length := (List.getElem?_eq_some_iff.1 hip).1
    obtain ⟨fwo, fnd, fas, flo, fge⟩ := ticks_facts (ks.take i) ⟨S1, [], []⟩ wo1 nd1
    have etick : ticks S1 (ks.take (i + 1)) = tick1 (ticks S1 (ks.take i)) ip := by
      unfold ticks
      rw [List.take_add_one, hip, List.foldl_append]; rfl
    have hnot : ip ∉ ks.take i := fun hh => by
      have h1 := List.take_append_drop i ks
      rw [← h1] at hnd
      have h2 : ip ∈ ks.drop i := by
        rw [List.mem_iff_getElem?]
        exact ⟨0, by rw [List.getElem?_drop]; simpa using hip⟩
      exact (List.nodup_append.1 hnd).2.2 ip hh ip h2 rfl
    have hge : mget (ticks S1 (ks.take i)).S.es ip = mget S1.es ip := fge ip hnot
    obtain ⟨e, he1⟩ : ∃ e, mget S1.es ip = some e := by
      cases hh : mget S1.es ip with
      | none => exact absurd hh ((mget_mem _ _).2 (hp.subset (List.mem_of_getElem? hip)))
      | some e => exact ⟨e, rfl⟩
    have he : mget (ticks S1 (ks.take i)).S.es ip = some e := by rw [hge]; exact he1
    have hel : e.ws.length ≤ 100000 := wo1 ip e he1
    have htl : (ks.take i).length ≤ 2000 := by rw [List.length_take]; omega
    have hml : (ks.take i).length * 100000 ≤ 2000 * 100000 := Nat.mul_le_mul_right _ htl
    have hasl : (ticks S1 (ks.take i)).asks.length ≤ 2000 := by have : (ticks S1 (ks.take i)).asks.length ≤ ([] : List Int).length + _ := fas; simp only [List.length_nil] at this; omega
    have hlol : (ticks S1 (ks.take i)).lost.length ≤ 200000000 := by have : (ticks S1 (ks.take i)).lost.length ≤ ([] : List Int).length + _ := flo; simp only [List.length_nil] at this; omega
    generalize ticks S1 (ks.take i) = c at *
    obtain ⟨q, hq⟩ : ∃ q, mget pm' ip = some q := by
      cases hh : mget pm' ip with
      | none => have := (t.a.both ip).1 hh; rw [he] at this; cases this
      | some q => exact ⟨q, rfl⟩
    refine ⟨fun j h1 h2 => gs j h2 (fun hh => by have := hF0l j hh; omega) (by omega) (by omega) (by omega), by rw [gs _ (by omega) (fun hh => by have := hF0l _ hh; omega) (by omega) (by omega) (by omega), qs.same _ (by omega)], q, by rw [Hp.ld_of t.a.row]; rfl, by rw [t.a.look ip, hq]; rfl, ?_⟩
    refine hY ip (some (q, 0)) g _ gL ⟨gL, ?_⟩
    rintro g2 rfl
    have sL : ∀ j, j ≠ h8.next + 1 → (g.set (h8.next + 1) (rec .busy none)).get j = g.get j := fun j hj => Hp.get_set_ne hj
    have gLb : (g.set (h8.next + 1) (rec .busy none)).get (h8.next + 1) = some (rec .busy none) := Hp.get_set_self
    have t2 := t.stay fx sL (t.wf.set (by have := t.le; omega)) rfl
    generalize g.set (h8.next + 1) (rec .busy none) = g2 at *
    obtain ⟨e', he', x, f, G', gq, goe, hG', hqG'⟩ := t2.a.ent ip q hq
    rw [he] at he'
    cases he'
    -- the round's end
    have fin : ∀ (c' : TSt) (g' : Hp) om2 pm2 fp2 y1 b1 H1 y2 b2 H2, c' = tick1 c ip → TkAt n m h.next h1.next h2.next F0 hs2.next c' g' om2 pm2 fp2 y1 b1 H1 y2 b2 H2 → (∀ j, j < hs2.next → j ∉ F0 → j ≠ h1.next → j ≠ h2.next → g'.get j = g2.get j) →
        g'.get (h8.next + 1) = some (rec .busy none) ∧ ∀ h', h' = g'.set (h8.next + 1) (rec .ready none) → (V.bool true = V.bool true ∧ ∃ om' pm' fp' x1 f1 G1 x2 f2 G2, TkAt n m h.next h1.next h2.next F0 hs2.next (ticks S1 (ks.take (i + 1))) h' om' pm' fp' x1 f1 G1 x2 f2 G2 ∧ h'.get (h8.next + 1) = some (rec .ready none) ∧ (∀ j, j < hs2.next → j ∉ F0 → j ≠ h8.next + 1 → j ≠ h1.next → j ≠ h2.next → h'.get j = hs2.get j)) := by
      intro c' g' om2 pm2 fp2 y1 b1 H1 y2 b2 H2 hc t' hs'
      refine ⟨by rw [hs' _ fx.lL fx.fL fx.dL1 fx.dL2]; exact gLb, ?_⟩
      rintro h' rfl
      refine ⟨rfl, om2, pm2, fp2, y1, b1, H1, y2, b2, H2, ?_, Hp.get_set_self, fun j j1 j2 j3 j4 j5 => ?_⟩
      · rw [etick, ← hc]
        exact t'.stay fx (fun j hj => Hp.get_set_ne hj) (t'.wf.set (by have := t'.le; have := fx.lL; omega)) rfl
      · rw [Hp.get_set_ne j3, hs' j j1 j2 j4 j5, sL j j3]
        exact gs j j1 j2 j3 j4 j5
    have rn : ∀ {k : Nat} {v : V}, (nRow c.S m)[k]? = some v → g2.ld n (0 + k) = some v := fun {k v} hv => by rw [Hp.ld_of t2.a.row, Nat.zero_add]; exact hv
    have rq : ∀ {k : Nat} {v : V}, (eRow e x f)[k]? = some v → g2.ld q (0 + k) = some v := fun {k v} hv => by rw [Hp.ld_of gq, Nat.zero_add]; exact hv
    have rp : g2.ld h.next 0 = some (.ptr (some (n, 0))) := by rw [Hp.ld_of t2.np]; rfl
    refine ⟨e.at', rq rfl, some (n, 0), rp, c.S.now, rn rfl, ?_⟩
    cases c1 : ltI c.S.now e.at' with
    | true =>
      rw [ltI_eq, decide_eq_true_eq] at c1
      exact fin c g2 om' pm' fp' x1 f1 G1 x2 f2 G2 (tick1_none he c1).symm t2 (fun _ _ _ _ _ => rfl)
    | false =>
    rw [ltI_eq, decide_eq_false_iff_not] at c1
    refine ⟨e.st, rq rfl, ?_⟩
    cases c2 : e.st == 2 with
    | true =>
      have c2' : e.st = 2 := by simpa using c2
      refine ⟨some (n, 0), rp, c.S.now, rn rfl, some (n, 0), rp, c.S.cf.known, rn rfl, _, Hp.st_of gq (Nat.le_of_ble_eq_true rfl), rfl, rfl, rfl, ?_⟩
      have hql := t2.wf _ _ gq
      obtain ⟨g11, e11⟩ : ∃ g11, g11 = g2.set q (.row (splice (eRow e x f) (0 + 0) [.int .u8 3]) 1 false) := ⟨_, rfl⟩
      have gq11 : g11.get q = some (.row (eRow { e with st := 3 } x f) 1 false) := by rw [e11, Hp.get_set_self]; rfl
      have s11 : ∀ j, j ≠ q → g11.get j = g2.get j := fun j hj => by rw [e11]; exact Hp.get_set_ne hj
      have n11 : g11.next = g2.next := by rw [e11]; rfl
      have w11 : g11.wf := by rw [e11]; exact t2.wf.set hql
      rw [← e11]
      clear e11
      refine ⟨_, Hp.st_of gq11 (Nat.le_of_ble_eq_true rfl), rfl, rfl, ?_⟩
      obtain ⟨g12, e12⟩ : ∃ g12, g12 = g11.set q (.row (splice (eRow { e with st := 3 } x f) (0 + 3) [.int .i64 0]) 1 false) := ⟨_, rfl⟩
      have gq12 : g12.get q = some (.row (eRow { e with st := 3, asked := 0 } x f) 1 false) := by rw [e12, Hp.get_set_self]; rfl
      have s12 : ∀ j, j ≠ q → g12.get j = g11.get j := fun j hj => by rw [e12]; exact Hp.get_set_ne hj
      have n12 : g12.next = g11.next := by rw [e12]; rfl
      have w12 : g12.wf := by rw [e12]; exact w11.set (by omega)
      rw [← e12]
      clear e12
      refine ⟨_, Hp.st_of gq12 (Nat.le_of_ble_eq_true rfl), ?_⟩
      obtain ⟨fp2, t3⟩ := t2.turn fx hq (e := e) (e' := { e with st := 3, asked := 0, at' := IntKind.i64.wrap (c.S.now + c.S.cf.known) }) (x := x) (f := f) (g' := g12.set q (.row (splice (eRow { e with st := 3, asked := 0 } x f) (0 + 2) [.int .i64 (IntKind.i64.wrap (c.S.now + c.S.cf.known))]) 1 false)) goe hG' hqG' (by rw [Hp.get_set_self]; rfl) (fun j hj => by rw [Hp.get_set_ne hj, s12 j hj, s11 j hj]) (w12.set (by omega)) (by show g2.next ≤ g12.next; omega)
      have hqF0 : q ∈ F0 := t2.sub q (mem_foot.2 (.inr (.inr ⟨ip, by rw [hq]; simp, by rw [hG']; simp⟩)))
      exact fin _ _ om' pm' fp2 x1 f1 G1 x2 f2 G2 (tick1_stale he c1 c2').symm t3 (fun j _ j2 _ _ => by
        have hjq : j ≠ q := fun e => j2 (e ▸ hqF0)
        rw [Hp.get_set_ne hjq, s12 j hjq, s11 j hjq])
    | false =>
    have c2' : ¬ e.st = 2 := by simpa using c2
    have lose := fun (h3 : (e.st = 3 ∧ e.asked = 0) ∨ ¬ e.asked < c.S.cf.asks) => lose_tail fx t2 hq gq goe hG' hqG' (by omega) (Z := fun g' => g'.get (h8.next + 1) = some (rec .busy none) ∧ ∀ h', h' = g'.set (h8.next + 1) (rec .ready none) → (V.bool true = V.bool true ∧ ∃ om' pm' fp' x1 f1 G1 x2 f2 G2, TkAt n m h.next h1.next h2.next F0 hs2.next (ticks S1 (ks.take (i + 1))) h' om' pm' fp' x1 f1 G1 x2 f2 G2 ∧ h'.get (h8.next + 1) = some (rec .ready none) ∧ (∀ j, j < hs2.next → j ∉ F0 → j ≠ h8.next + 1 → j ≠ h1.next → j ≠ h2.next → h'.get j = hs2.get j)))
      (fun g' om2 pm2 fp2 y2 b2 H2 t' hs' => fin _ g' om2 pm2 fp2 x1 f1 G1 y2 b2 H2 (tick1_lose he c1 c2' h3).symm t' hs')
    have askit := fun (h3 : ¬ ((e.st = 3 ∧ e.asked = 0) ∨ ¬ e.asked < c.S.cf.asks)) => ask_tail fx t2 hq gq goe hG' hqG' (by omega) (Z := fun g' => g'.get (h8.next + 1) = some (rec .busy none) ∧ ∀ h', h' = g'.set (h8.next + 1) (rec .ready none) → (V.bool true = V.bool true ∧ ∃ om' pm' fp' x1 f1 G1 x2 f2 G2, TkAt n m h.next h1.next h2.next F0 hs2.next (ticks S1 (ks.take (i + 1))) h' om' pm' fp' x1 f1 G1 x2 f2 G2 ∧ h'.get (h8.next + 1) = some (rec .ready none) ∧ (∀ j, j < hs2.next → j ∉ F0 → j ≠ h8.next + 1 → j ≠ h1.next → j ≠ h2.next → h'.get j = hs2.get j)))
      (fun g' fp2 y1 b1 H1 t' hs' => fin _ g' om' pm' fp2 y1 b1 H1 x2 f2 G2 (tick1_ask he c1 c2' h3).symm t' hs')
    refine ⟨e.st, rq rfl, ?_⟩
    cases c3 : e.st == 3 with
    | true =>
      have c3' : e.st = 3 := by simpa using c3
      refine ⟨e.asked, rq rfl, ?_⟩
      cases c4 : e.asked == 0 with
      | true => exact lose (.inl ⟨c3', by simpa using c4⟩)
      | false =>
        have c4' : ¬ e.asked = 0 := by simpa using c4
        refine ⟨e.asked, rq rfl, some (n, 0), rp, c.S.cf.asks, rn rfl, ?_⟩
        cases c5 : ltI e.asked c.S.cf.asks with
        | false =>
          rw [ltI_eq, decide_eq_false_iff_not] at c5
          exact lose (.inr c5)
        | true =>
          rw [ltI_eq, decide_eq_true_eq] at c5
          exact askit (fun hh => hh.elim (fun h1 => c4' h1.2) (fun h1 => h1 c5))
    | false =>
      have c3' : ¬ e.st = 3 := by simpa using c3
      refine ⟨e.asked, rq rfl, some (n, 0), rp, c.S.cf.asks, rn rfl, ?_⟩
      cases c5 : ltI e.asked c.S.cf.asks with
      | false =>
        rw [ltI_eq, decide_eq_false_iff_not] at c5
        exact lose (.inr c5)
      | true =>
        rw [ltI_eq, decide_eq_true_eq] at c5
        exact askit (fun hh => hh.elim (fun h1 => c3' h1.1) (fun h1 => h1 c5))
  · rintro g ⟨om', pm', fp', x1, f1, G1, x2, f2, G2, t, gL, gs⟩
    rw [List.take_length] at t
    left
    refine ⟨gL, ?_⟩
    rintro g10 rfl
    have t10 := t.stay fx (g' := g.set (h8.next + 1) (rec .exhausted none)) (fun j hj => Hp.get_set_ne hj) (t.wf.set (by have := t.le; omega)) rfl
    have gd10 : (g.set (h8.next + 1) (rec .exhausted none)).get h8.next = some (.dfr true) := by
      rw [Hp.get_set_ne (by omega), gs _ (by omega) (fun hh => by have := hF0l _ hh; omega) (by omega) (by omega) (by omega), qs.same _ (by omega)]; exact g9d
    have s10 : ∀ j, j < h.next → j ∉ F0 → (g.set (h8.next + 1) (rec .exhausted none)).get j = h.get j := fun j hj hF => by
      rw [Hp.get_set_ne (by omega), gs j (by omega) hF (by omega) (by omega) (by omega), qs.same j (by omega), q79.same j (by omega)]
      exact u7 j hj (hF0 ▸ hF)
    generalize g.set (h8.next + 1) (rec .exhausted none) = g10 at *
    have le10 := t10.le
    generalize hc : ticks S1 ks = c at *
    refine ⟨x1, c.asks.length, f1, by rw [Hp.ld_of t10.p1]; rfl, x2, c.lost.length, f2, by rw [Hp.ld_of t10.p2]; rfl, _, Hp.st_of t10.p1 (Nat.le_of_ble_eq_true rfl), ?_⟩
    obtain ⟨g11, e11⟩ : ∃ g11, g11 = g10.set h1.next (.row (splice [.slc x1 c.asks.length f1] 0 [.slc x1 c.asks.length f1]) 1 false) := ⟨_, rfl⟩
    have p11 : g11.get h1.next = some (.row [.slc x1 c.asks.length f1] 1 false) := by rw [e11, Hp.get_set_self]; simp [splice]
    have s11 : ∀ j, j ≠ h1.next → g11.get j = g10.get j := fun j hj => by rw [e11]; exact Hp.get_set_ne hj
    have n11 : g11.next = g10.next := by rw [e11]; rfl
    have w11 : g11.wf := by rw [e11]; exact t10.wf.set (by omega)
    rw [← e11]
    clear e11
    have p11b : g11.get h2.next = some (.row [.slc x2 c.lost.length f2] 1 false) := by rw [s11 _ (by omega)]; exact t10.p2
    refine ⟨⟨x2, c.lost.length, f2, by rw [Hp.ld_of p11b]; rfl, rfl⟩, _, Hp.st_of p11b (Nat.le_of_ble_eq_true rfl), ?_⟩
    obtain ⟨g12, e12⟩ : ∃ g12, g12 = g11.set h2.next (.row (splice [.slc x2 c.lost.length f2] 0 [.slc x2 c.lost.length f2]) 1 false) := ⟨_, rfl⟩
    have p12 : g12.get h2.next = some (.row [.slc x2 c.lost.length f2] 1 false) := by rw [e12, Hp.get_set_self]; simp [splice]
    have s12 : ∀ j, j ≠ h2.next → g12.get j = g11.get j := fun j hj => by rw [e12]; exact Hp.get_set_ne hj
    have n12 : g12.next = g11.next := by rw [e12]; rfl
    have w12 : g12.wf := by rw [e12]; exact w11.set (by omega)
    rw [← e12]
    clear e12
    have gd12 : g12.get h8.next = some (.dfr true) := by rw [s12 _ (by omega), s11 _ (by omega)]; exact gd10
    have s13 : ∀ j, j ≠ h8.next → (g12.set h8.next (.dfr false)).get j = g12.get j := fun j hj => Hp.get_set_ne hj
    have sall : ∀ j, j ≠ h1.next → j ≠ h2.next → j ≠ h8.next → (g12.set h8.next (.dfr false)).get j = g10.get j := fun j j1 j2 j3 => by rw [s13 j j3, s12 j j2, s11 j j1]
    refine ⟨_, shut_one gd12, x1, c.asks.length, f1, by rw [Hp.ld_of (by rw [s13 _ (by omega), s12 _ (by omega)]; exact p11)]; rfl, x2, c.lost.length, f2, by rw [Hp.ld_of (by rw [s13 _ (by omega)]; exact p12)]; rfl, ?_⟩
    refine hK _ _ ⟨ks, x1, f1, G1, x2, f2, G2, foot n m pm' fp', by rw [hc], by rw [← hes]; exact hp, hri, ?_, ?_, fun j hj => ?_, fun j hj => ?_, ?_, ⟨fun j hj hF => ?_, fun j hj => .inl (hF0 ▸ t10.sub j hj), by show h.next ≤ g12.next; omega⟩, w12.set (by omega)⟩
    · rw [hc]; exact (Own.rep _ _ _ _).loc _ _ _ (fun j hj => by have := t10.b1 j hj; exact sall j (by omega) (by omega) (by omega)) t10.o1
    · rw [hc]; exact (Own.rep _ _ _ _).loc _ _ _ (fun j hj => by have := t10.b2 j hj; exact sall j (by omega) (by omega) (by omega)) t10.o2
    · have := t10.b1 j hj; exact ⟨by omega, fun hh => by have := hF0l j (t10.sub j hh); omega⟩
    · have := t10.b2 j hj; exact ⟨by omega, fun hh => by have := hF0l j (t10.sub j hh); omega⟩
    · rw [hc]; exact ⟨m, om', pm', fp', t10.a.loc fun j hj => by have := hF0l j (t10.sub j hj); exact sall j (by omega) (by omega) (by omega), rfl⟩
    · rw [sall j (by omega) (by omega) (by omega)]; exact s10 j hj (hF0 ▸ hF)
end
end Go.Vex.Nr
