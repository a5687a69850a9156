/-
  Who is near (layer 9): each (a range over a function), and the contract of Waits.
-/
import Derived.Test.YtkpkpnmkoejidaaVexEE
import Derived.Test.YtkpkpnmkoejidaaVexFF
import Derived.Test.YtkpkpnmkoejidaaVexGG
import Derived.Test.YtkpkpnmkoejidaaTab09
import Derived.Test.YtkpkpnmkoejidaaXa09
import Derived.Test.YtkpkpnmkoejidaaXs09
import Derived.Test.YtkpkpnmkoejidaaXk09
import Derived.Test.YtkpkpnmkoejidaaCsa09
import Derived.Test.YtkpkpnmkoejidaaCsb09
import Derived.Test.YtkpkpnmkoejidaaCsc09
import Derived.Test.YtkpkpnmkoejidaaCsd09
import Derived.Test.YtkpkpnmkoejidaaCse09
import Derived.Test.YtkpkpnmkoejidaaCa09
import Derived.Test.YtkpkpnmkoejidaaCb09
import Derived.Test.YtkpkpnmkoejidaaCc09
set_option linter.unusedVariables false
set_option linter.unusedSimpArgs false
namespace Go.Vex.Nr
open Go.Proofs

theorem appN {t e sz : Nat} (hT : ∃ ti ei, T t = some ti ∧ ti.d = .slc e ∧ T e = some ei ∧ ei.size = sz ∧ ei.bytes ≤ 64 ∧ zok ei = true) (h1 : 1 ≤ sz) {n : Nat} {a : Option (Nat × Nat)} {f : Bool} {rows : List (List V)} {g : Hp} {G : List Nat} {c : List V} (hc : c.length = sz) (ho : Own sz a n rows g G) (hw : g.wf) (hl : n ≤ 1000000000) :
    ∃ h', xapp T (g.alloc (.row c sz false)) t t (.slc a n f) (.slc (some (g.next, 0)) 1 true) = some (.slc (some (g.next + 1, 0)) (n + 1) false, h') ∧
      Own sz (some (g.next + 1, 0)) (n + 1) (rows ++ [c]) h' [g.next + 1] ∧ (∀ j, j < g.next → j ∉ G → h'.get j = g.get j) ∧ g.next + 1 < h'.next ∧ h'.wf := by
  obtain ⟨ti, ei, ht, hd, he, hs, hb, hz⟩ := hT
  have q := Quiet.alloc hw (.row c sz false)
  have ho' := (Own.rep _ _ _ _).stay hw ho q.same
  have hcc : (g.alloc (.row c sz false)).get g.next = some (.row c sz false) := Hp.get_alloc_self
  have hud : ∀ k, ti.d ≠ .int k := fun k e => by rw [hd] at e; cases e
  have hmul : (n + 1) * ei.bytes ≤ 1000000001 * 64 := Nat.mul_le_mul (by omega) hb
  obtain ⟨h', hx, ho2, u, wf⟩ := ho'.app (f := f) q.wf ht hd ht hud he hs h1 hz (news := [c]) (xnews_one hcc hc) (by simp [hc]) (by simp) (by simp only [List.length_singleton]; omega) (by simp; omega)
  have hnx : (g.alloc (.row c sz false)).next = g.next + 1 := Hp.alloc_next _ _
  rw [hnx] at hx ho2
  refine ⟨h', hx, ho2, fun j hj hG => ?_, ?_, wf⟩
  · rw [u.same j (by omega) hG]; exact q.same j hj
  · exact (Own.rep _ _ _ _).lt wf ho2 (by simp)

theorem t46 : ∃ ti ei, T 46 = some ti ∧ ti.d = .slc 66 ∧ T 66 = some ei ∧ ei.size = 2 ∧ ei.bytes ≤ 64 ∧ zok ei = true := ⟨_, _, rfl, rfl, rfl, rfl, by decide, rfl⟩
theorem t35 : ∃ ti ei, T 35 = some ti ∧ ti.d = .slc 33 ∧ T 33 = some ei ∧ ei.size = 1 ∧ ei.bytes ≤ 64 ∧ zok ei = true := ⟨_, _, rfl, rfl, rfl, rfl, by decide, rfl⟩

section
variable {n : Nat} {S : NS} {h : Hp} {F : List Nat} {m : Nat} {om : O} {pm : List (Int × Nat)} {fp : Int → List Nat}

theorem each_made (n : Nat) : XCalls Try.prog 18 [.ptr (some (n, 0))] h fun v h' => v = .fn (.func 19) [] [.ptr (some (h.next, 0))] ∧ h' = h.alloc (.row [.ptr (some (n, 0))] 1 false) := by
  apply x18; unfold X18
  rintro h1 rfl
  exact ⟨rfl, rfl⟩

theorem each_spec (hw : h.wf) (a : NearAt n S h m om pm fp) (hl : S.es.length ≤ 1000000) {c1 y : Nat} (hc : h.get c1 = some (.row [.ptr (some (n, 0))] 1 false)) {K : V → Hp → Prop}
    (hK : ∀ (ks : List Int) (h2 : Hp), ks.Perm (S.es.map Prod.fst) → Sort.Rising ks → Quiet h h2 → ∃ I : Nat → Hp → Prop, I 0 h2 ∧
      (∀ i g ip, I i g → ks[i]? = some ip → (∀ j, h.next ≤ j → j < h2.next → g.get j = h2.get j) ∧ g.get c1 = h.get c1 ∧ ∃ q, g.ld n 6 = some (.map (some m)) ∧ xlook T g 52 (.map (some m)) (.int .u32 ip) false = some (.ptr (some (q, 0))) ∧
        XYield Try.prog y [.int .u32 ip, .ptr (some (q, 0))] g fun v g' => v = .bool true ∧ I (i + 1) g') ∧
      (∀ g, I ks.length g → K (.tup []) g)) : XCalls Try.prog 19 [.yld y, .ptr (some (c1, 0))] h K := by
  apply x19; unfold X19
  refine ⟨some (n, 0), by rw [Hp.ld_of hc]; rfl, some m, by rw [Hp.ld_of a.row]; rfl, ?_⟩
  refine (Sort.keys_spec (some m)).mono ?_
  rintro _ h1 ⟨rfl, rfl⟩
  refine ⟨_, rfl, ?_⟩
  have q1 := Quiet.alloc hw (.row [.map (some m)] 1 false)
  have g1 : (h.alloc (.row [.map (some m)] 1 false)).get h.next = some (.row [.map (some m)] 1 false) := Hp.get_alloc_self
  have n1 : (h.alloc (.row [.map (some m)] 1 false)).next = h.next + 1 := Hp.alloc_next _ _
  generalize h.alloc (.row [.map (some m)] 1 false) = h1 at *
  have hm1 : h1.get m = some om := by rw [q1.same m (a.mn hw)]; exact a.omg
  refine (Sort.sorted_spec q1.wf g1 (a.mo.is hm1) (by rw [a.len]; omega)).mono ?_
  rintro _ h2 ⟨x, f, ks, G, rfl, hp, hri, ho, hs, hn, hw2, hG⟩
  refine ⟨_, _, _, rfl, ?_⟩
  have hkl : ks.length = pm.length := by have := hp.length_eq; simpa using this
  rw [← hkl] at ho ⊢
  have q2 : Quiet h h2 := q1.trans ⟨hs, hn, hw2⟩
  obtain ⟨I, i0, istep, ifin⟩ := hK ks h2 (by rw [← a.keys]; exact hp) hri q2
  have hlp : ks.length ≤ 1000000 := by rw [hkl, a.len]; exact hl
  refine ⟨fun vs g => match vs with
    | [.int _ i] => ∃ k : Nat, i = k ∧ k ≤ ks.length ∧ I k g
    | _ => False, fun vs _ => match vs with
    | [.int _ i] => ks.length - i.toNat
    | _ => 0, ⟨by trivial, 0, rfl, by omega, i0⟩, ?_⟩
  rintro bs i g ⟨k, rfl, hk, hI⟩
  cases hi : ltI (↑k) (↑ks.length) with
  | false =>
    rw [ltI_eq, decide_eq_false_iff_not] at hi
    obtain rfl : k = ks.length := by omega
    exact ifin g hI
  | true =>
  rw [ltI_eq, decide_eq_true_eq] at hi
  obtain ⟨ip, hip⟩ : ∃ ip, ks[k]? = some ip := ⟨_, List.getElem?_eq_getElem (by omega)⟩
  obtain ⟨t1, t2, q, t3, t4, t5⟩ := istep k g ip hI hip
  have hog : Own 1 x ks.length (ks.map fun k => [Sort.en k]) g G := (Own.rep _ _ _ _).loc _ _ _ (fun j hj => t1 j (by have := hG j hj; omega) ((Own.rep _ _ _ _).lt hw2 ho hj)) ho
  obtain ⟨q', o', r', rfl, hr', _, hld, _⟩ := hog.ld (k := k) (by omega)
  rw [List.getElem?_map, hip] at hr'
  cases hr'
  refine ⟨⟨by omega, hi⟩, ip, by rw [Int.toNat_natCast]; exact hld 0 (by omega), some (n, 0), by rw [Hp.ld_of (by rw [t2]; exact hc)]; rfl, some m, t3, some (q, 0), t4, ?_⟩
  refine t5.mono ?_
  rintro _ g' ⟨rfl, hI'⟩
  have hwk : IntKind.i64.wrap ((k : Int) + 1) = ((k + 1 : Nat) : Int) := by rw [wr (by omega) (by omega)]; rfl
  rw [hwk]
  exact ⟨true, rfl, by trivial, ⟨k + 1, rfl, by omega, hI'⟩, by simp only [Int.toNat_natCast]; omega⟩

/-- how many wait for one -/
def wl (es : List (Int × En)) (ip : Int) : Nat := match mget es ip with
  | some e => e.ws.length
  | none => 0

def held' (es : List (Int × En)) : Nat := (es.map fun z => z.2.ws.length).sum

theorem wl_sum {es : List (Int × En)} (hn : (es.map Prod.fst).Nodup) : ((es.map Prod.fst).map (wl es)).sum = held' es := by
  unfold held'
  rw [List.map_map]
  congr 1
  refine List.map_congr_left fun z hz => ?_
  show wl es z.1 = _
  unfold wl
  have : mget es z.1 = some z.2 := by
    induction es with
    | nil => cases hz
    | cons x l ih =>
      rw [List.map_cons, List.nodup_cons] at hn
      rw [mget_cons]
      rcases List.mem_cons.1 hz with rfl | hz
      · rw [if_pos rfl]
      · have : z.1 ≠ x.1 := fun e => hn.1 (by rw [← e]; exact List.mem_map_of_mem hz)
        rw [if_neg this]; exact ih hn.2 hz
  rw [this]

theorem sum_take {l : List Int} {w : Int → Nat} {B : Nat} (hw : ∀ x, w x ≤ B) : ∀ i, ((l.take i).map w).sum ≤ i * B
  | 0 => by simp
  | i + 1 => by
    rw [List.take_add_one, List.map_append, List.sum_append, Nat.add_mul]
    have := sum_take hw i (l := l)
    cases l[i]? with
    | none => simp only [Option.toList_none, List.map_nil, List.sum_nil]; omega
    | some x => have := hw x; simp only [Option.toList_some, List.map_cons, List.map_nil, List.sum_cons, List.sum_nil]; omega

theorem wl_le {S : NS} (wo : WsOk S) (ip : Int) : wl S.es ip ≤ 100000 := by
  unfold wl
  cases h : mget S.es ip with
  | none => simp
  | some e => exact wo ip e h

set_option maxRecDepth 20000 in
theorem waits_spec (hw : h.wf) (r : NearR n S h F) (wo : WsOk S) (hl : S.es.length ≤ 2000) : XCalls Try.prog 12 [.ptr (some (n, 0))] h fun v h' => ∃ x f, v = .slc x (held' S.es) f ∧ Quiet h h' := by
  obtain ⟨m, om, pm, fp, a, rfl⟩ := r
  refine XCalls.cps fun K hK => ?_
  apply x12; unfold X12
  rintro h1 rfl
  have q1 := Quiet.alloc hw (.row [.slc none 0 true] 1 false)
  have g1 : (h.alloc (.row [.slc none 0 true] 1 false)).get h.next = some (.row [.slc none 0 true] 1 false) := Hp.get_alloc_self
  have n1 : (h.alloc (.row [.slc none 0 true] 1 false)).next = h.next + 1 := Hp.alloc_next _ _
  generalize h.alloc (.row [.slc none 0 true] 1 false) = h1 at *
  have al := a.lt hw
  have a1 : NearAt n S h1 m om pm fp := a.loc fun j hj => q1.same j (al j hj)
  refine (none_spec a1).mono ?_
  rintro _ _ ⟨rfl, rfl⟩
  rename_i h1
  refine ⟨_, rfl, ?_⟩
  refine (each_made n).mono ?_
  rintro _ h4 ⟨rfl, rfl⟩
  refine ⟨_, rfl, ?_⟩
  rintro rec hrec h5 rfl hY
  have q4 := Quiet.alloc q1.wf (.row [.ptr (some (n, 0))] 1 false)
  have g4 : (h1.alloc (.row [.ptr (some (n, 0))] 1 false)).get h1.next = some (.row [.ptr (some (n, 0))] 1 false) := Hp.get_alloc_self
  have n4 : (h1.alloc (.row [.ptr (some (n, 0))] 1 false)).next = h1.next + 1 := Hp.alloc_next _ _
  generalize h1.alloc (.row [.ptr (some (n, 0))] 1 false) = h4 at *
  have q5a := Quiet.alloc q4.wf (.dfr true)
  have g5a : (h4.alloc (.dfr true)).get h4.next = some (.dfr true) := Hp.get_alloc_self
  have n5a : (h4.alloc (.dfr true)).next = h4.next + 1 := Hp.alloc_next _ _
  generalize h4.alloc (.dfr true) = h5a at *
  have q5b := Quiet.alloc q5a.wf (rec .ready none)
  have g5b : (h5a.alloc (rec .ready none)).get h5a.next = some (rec .ready none) := Hp.get_alloc_self
  have n5b : (h5a.alloc (rec .ready none)).next = h5a.next + 1 := Hp.alloc_next _ _
  generalize h5a.alloc (rec .ready none) = h5 at *
  rw [n5a] at g5b
  have q15 : Quiet h1 h5 := q4.trans (q5a.trans q5b)
  have g5c : h5.get h1.next = some (.row [.ptr (some (n, 0))] 1 false) := by rw [q5b.same _ (by omega), q5a.same _ (by omega)]; exact g4
  have g5d : h5.get h4.next = some (.dfr true) := by rw [q5b.same _ (by omega)]; exact g5a
  have g5l : h5.get h.next = some (.row [.slc none 0 true] 1 false) := by rw [q15.same _ (by omega)]; exact g1
  have a5 : NearAt n S h5 m om pm fp := a1.loc fun j hj => q15.same j (by have := al j hj; omega)
  have q05 := q1.trans q15
  refine each_spec q15.wf a5 (by omega) g5c fun ks h2 hp hri q2 => ?_
  have hkn : ks.length = S.es.length := by have := hp.length_eq; simpa using this
  have hq2 := q2.le
  -- the state of a round
  refine ⟨fun i g => ∃ (x : Option (Nat × Nat)) (f : Bool) (rows : List (List V)) (G : List Nat), g.get h.next = some (.row [.slc x rows.length f] 1 false) ∧ Own 2 x rows.length rows g G ∧ rows.length = ((ks.take i).map (wl S.es)).sum ∧ (∀ j ∈ G, h2.next ≤ j) ∧ g.get (h4.next + 1) = some (rec .ready none) ∧
    (∀ j, j < h2.next → j ≠ h4.next + 1 → j ≠ h.next → g.get j = h2.get j) ∧ g.wf ∧ h2.next ≤ g.next, ?_, ?_, ?_⟩
  · exact ⟨none, true, [], [], by rw [q2.same _ (by omega)]; exact g5l, Own.nil _ _, by simp, by simp, by rw [q2.same _ (by omega)]; exact g5b, fun _ _ _ _ => rfl, q2.wf, Nat.le_refl _⟩
  · rintro i g ip ⟨x, f, rows, G, gl, go, hr, hG, gL, gs, gw, gn⟩ hip
    have hi : i < ks.length := (List.getElem?_eq_some_iff.1 hip).1
    have ag : NearAt n S g m om pm fp := a5.loc fun j hj => by
      have := al j hj
      rw [gs j (by omega) (by omega) (by omega), q2.same j (by omega)]
    have hipm : ip ∈ S.es.map Prod.fst := hp.subset (List.mem_of_getElem? hip)
    obtain ⟨q, hq⟩ : ∃ q, mget pm ip = some q := by
      cases hh : mget pm ip with
      | none => exact absurd ((a.both ip).1 hh) ((mget_mem _ _).2 hipm)
      | some q => exact ⟨q, rfl⟩
    obtain ⟨e, he, x', f', G', gq, goe, hG', hqG'⟩ := ag.ent ip q hq
    have hwl : wl S.es ip = e.ws.length := by unfold wl; rw [he]
    have hbnd : ((ks.take i).map (wl S.es)).sum ≤ i * 100000 := sum_take (wl_le wo) i
    have hel : e.ws.length ≤ 100000 := wo ip e he
    have hib : i * 100000 ≤ 2000 * 100000 := Nat.mul_le_mul_right _ (by omega)
    have hfl : ∀ j ∈ fp ip, j < h.next := fun j hj => al j (mem_foot.2 (.inr (.inr ⟨ip, by rw [hq]; simp, hj⟩)))
    refine ⟨fun j h1 h2 => gs j h2 (by omega) (by omega), by rw [gs _ (by omega) (by omega) (by omega), q2.same _ (by omega)], q, by rw [Hp.ld_of ag.row]; rfl, by rw [ag.look ip, hq]; rfl, ?_⟩
    refine hY ip (some (q, 0)) g _ gL ⟨gL, ?_⟩
    rintro g2 rfl
    have sL : ∀ j, j ≠ h4.next + 1 → (g.set (h4.next + 1) (rec .busy none)).get j = g.get j := fun j hj => Hp.get_set_ne hj
    have gLb : (g.set (h4.next + 1) (rec .busy none)).get (h4.next + 1) = some (rec .busy none) := Hp.get_set_self
    have wL : (g.set (h4.next + 1) (rec .busy none)).wf := gw.set (by omega)
    have nL : (g.set (h4.next + 1) (rec .busy none)).next = g.next := rfl
    generalize g.set (h4.next + 1) (rec .busy none) = g2 at *
    have gq2 : g2.get q = some (.row (eRow e x' f') 1 false) := by rw [sL q (by have := hfl q (by rw [hG']; simp); omega)]; exact gq
    refine ⟨x', e.ws.length, f', by rw [Hp.ld_of gq2]; rfl, ?_⟩
    refine ⟨fun vs g' => match vs with
      | [.int _ i'] => ∃ (k : Nat) (x : Option (Nat × Nat)) (f : Bool) (rows : List (List V)) (G : List Nat), i' = k ∧ k ≤ e.ws.length ∧ g'.get h.next = some (.row [.slc x rows.length f] 1 false) ∧ Own 2 x rows.length rows g' G ∧ rows.length = ((ks.take i).map (wl S.es)).sum + k ∧ (∀ j ∈ G, h2.next ≤ j) ∧ g'.get (h4.next + 1) = some (rec .busy none) ∧
          (∀ j, j < h2.next → j ≠ h4.next + 1 → j ≠ h.next → g'.get j = h2.get j) ∧ g'.wf ∧ h2.next ≤ g'.next
      | _ => False, fun vs _ => match vs with
      | [.int _ i'] => e.ws.length - i'.toNat
      | _ => 0, ⟨rfl, 0, x, f, rows, G, rfl, by omega, by rw [sL _ (by omega)]; exact gl, (Own.rep _ _ _ _).loc _ _ _ (fun j hj => sL j (by have := hG j hj; omega)) go, hr, hG, gLb, fun j h1 h2 h3 => by rw [sL j h2]; exact gs j h1 h2 h3, wL, by omega⟩, ?_⟩
    have gs0 := gs
    clear gl go hG gs gLb sL wL nL gq2 hr
    rintro bs1 i' g3 ⟨k, x, f, rows, G, rfl, hk, gl, go, hr, hG, gLb, gs, gw3, gn3⟩
    cases hki : ltI (↑k) (↑e.ws.length) with
    | false =>
      rw [ltI_eq, decide_eq_false_iff_not] at hki
      obtain rfl : k = e.ws.length := by omega
      refine ⟨gLb, ?_⟩
      rintro g9 rfl
      refine ⟨rfl, x, f, rows, G, by rw [Hp.get_set_ne (by omega)]; exact gl, (Own.rep _ _ _ _).loc _ _ _ (fun j hj => Hp.get_set_ne (by have := hG j hj; omega)) go, ?_, hG, Hp.get_set_self, fun j h1 h2 h3 => by rw [Hp.get_set_ne h2]; exact gs j h1 h2 h3, gw3.set (by omega), gn3⟩
      rw [hr, List.take_add_one, hip, List.map_append, List.sum_append]
      simp [hwl]
    | true =>
      rw [ltI_eq, decide_eq_true_eq] at hki
      have goe3 : Own 1 x' e.ws.length (uRows e.ws) g3 G' := (Own.rep _ _ _ _).loc _ _ _ (fun j hj => by
        have hj2 := hfl j (by rw [hG']; exact List.mem_cons_of_mem _ hj)
        rw [gs j (by omega) (by omega) (by omega), gs0 j (by omega) (by omega) (by omega)]) goe
      obtain ⟨q', o', r', rfl, hr', _, hld, _⟩ := goe3.ld (k := k) (by omega)
      obtain ⟨w, hw'⟩ : ∃ w, e.ws[k]? = some w := ⟨_, List.getElem?_eq_getElem (by omega)⟩
      have : r' = [.int .u64 w] := by unfold uRows at hr'; rw [List.getElem?_map, hw'] at hr'; simpa using hr'.symm
      subst this
      have hwk : IntKind.i64.wrap ((k : Int) + 1) = ((k + 1 : Nat) : Int) := by rw [wr (by omega) (by omega)]; rfl
      refine ⟨⟨by omega, hki⟩, w, by rw [Int.toNat_natCast]; exact hld 0 (by omega), x, rows.length, f, by rw [Hp.ld_of gl]; rfl, ?_⟩
      rintro g6 rfl
      obtain ⟨g7, hx7, go7, s7, l7, w7⟩ := appN (f := f) (c := [.int .u32 ip, .int .u64 w]) t46 (by omega) rfl go gw3 (by omega)
      have hnG : ∀ j, j < h2.next → j ∉ G := fun j hj hh => by have := hG j hh; omega
      have gl7 : g7.get h.next = some (.row [.slc x rows.length f] 1 false) := by rw [s7 _ (by omega) (hnG _ (by omega))]; exact gl
      refine ⟨_, _, _, g7, hx7, _, Hp.st_of gl7 (Nat.le_of_ble_eq_true rfl), rfl, ?_, ?_⟩
      · rw [hwk]
        refine ⟨k + 1, some (g3.next + 1, 0), false, rows ++ [[.int .u32 ip, .int .u64 w]], [g3.next + 1], rfl, by omega, by rw [Hp.get_set_self]; simp [splice], ?_, by rw [List.length_append, List.length_singleton]; omega, fun j hj => by rw [List.mem_singleton] at hj; omega, by rw [Hp.get_set_ne (by omega), s7 _ (by omega) (hnG _ (by omega))]; exact gLb, fun j h1 h2 h3 => by rw [Hp.get_set_ne h3, s7 j (by omega) (hnG j h1)]; exact gs j h1 h2 h3, w7.set (by omega), by show h2.next ≤ g7.next; omega⟩
        rw [List.length_append, List.length_singleton]
        exact (Own.rep _ _ _ _).loc _ _ _ (fun j hj => by rw [List.mem_singleton] at hj; exact Hp.get_set_ne (by omega)) go7
      · rw [hwk]; simp only [Int.toNat_natCast]; omega
  · rintro g ⟨x, f, rows, G, gl, go, hr, hG, gL, gs, gw, gn⟩
    left
    refine ⟨gL, ?_⟩
    rintro g10 rfl
    have gl10 : (g.set (h4.next + 1) (rec .exhausted none)).get h.next = some (.row [.slc x rows.length f] 1 false) := by rw [Hp.get_set_ne (by omega)]; exact gl
    have gd10 : (g.set (h4.next + 1) (rec .exhausted none)).get h4.next = some (.dfr true) := by rw [Hp.get_set_ne (by omega), gs _ (by omega) (by omega) (by omega), q2.same _ (by omega)]; exact g5d
    have w10 : (g.set (h4.next + 1) (rec .exhausted none)).wf := gw.set (by omega)
    have s10 : ∀ j, j < h.next → (g.set (h4.next + 1) (rec .exhausted none)).get j = h.get j := fun j hj => by rw [Hp.get_set_ne (by omega), gs j (by omega) (by omega) (by omega), q2.same j (by omega), q05.same j hj]
    have n10 : (g.set (h4.next + 1) (rec .exhausted none)).next = g.next := rfl
    generalize g.set (h4.next + 1) (rec .exhausted none) = g10 at *
    refine ⟨x, rows.length, f, by rw [Hp.ld_of gl10]; rfl, _, Hp.st_of gl10 (Nat.le_of_ble_eq_true rfl), ?_⟩
    have gd11 : (g10.set h.next (.row (splice [.slc x rows.length f] 0 [.slc x rows.length f]) 1 false)).get h4.next = some (.dfr true) := by rw [Hp.get_set_ne (by omega)]; exact gd10
    refine ⟨_, shut_one gd11, x, rows.length, f, by rw [Hp.ld_of (c := [.slc x rows.length f]) (e := 1) (r := false) (by rw [Hp.get_set_ne (by omega), Hp.get_set_self]; rfl)]; rfl, hK _ _ ⟨x, f, ?_, ?_⟩⟩
    · rw [hr, List.take_length]
      have : ((ks.map (wl S.es)).sum : Nat) = held' S.es := by
        rw [← wl_sum (by rw [← a.keys]; exact a.nd)]
        exact (hp.map _).sum_nat
      rw [this]
    · exact ⟨fun j hj => by rw [Hp.get_set_ne (by omega), Hp.get_set_ne (by omega)]; exact s10 j hj, by show h.next ≤ g10.next; omega, (w10.set (by omega)).set (by show h4.next < g10.next; omega)⟩
end
end Go.Vex.Nr
