/-
  Who is near (layer 9): the contract of Tick.
-/
import Derived.Test.YtkpkpnmkoejidaaVexEE
import Derived.Test.YtkpkpnmkoejidaaVexFF
import Derived.Test.YtkpkpnmkoejidaaVexGG
import Derived.Test.YtkpkpnmkoejidaaTab09
import Derived.Test.YtkpkpnmkoejidaaXa09
import Derived.Test.YtkpkpnmkoejidaaXs09
import Derived.Test.YtkpkpnmkoejidaaXk09
import Derived.Test.YtkpkpnmkoejidaaCsa09
import Derived.Test.YtkpkpnmkoejidaaCsb09
import Derived.Test.YtkpkpnmkoejidaaCsc09
import Derived.Test.YtkpkpnmkoejidaaCsd09
import Derived.Test.YtkpkpnmkoejidaaCse09
import Derived.Test.YtkpkpnmkoejidaaCa09
import Derived.Test.YtkpkpnmkoejidaaCb09
import Derived.Test.YtkpkpnmkoejidaaCc09
import Derived.Test.YtkpkpnmkoejidaaCd09
set_option linter.unusedVariables false
set_option linter.unusedSimpArgs false
namespace Go.Vex.Nr
open Go.Proofs

section
variable {κ β γ : Type} [DecidableEq κ]
theorem mdel_erase : ∀ (l : List (κ × β)) (k : κ), (mdel l k).map Prod.fst = (l.map Prod.fst).erase k
  | [], k => rfl
  | x :: l, k => by
    simp only [mdel, List.map_cons]
    by_cases e : k = x.1
    · rw [if_pos e, ← e, List.erase_cons_head]
    · rw [if_neg e, List.erase_cons_tail (by simpa using fun h => e h.symm), List.map_cons, mdel_erase l k]
end

/-- a round's state -/
structure TSt where
  S : NS
  asks : List Int
  lost : List Int

def tick1 (c : TSt) (ip : Int) : TSt := match mget c.S.es ip with
  | none => c
  | some e => if c.S.now < e.at' then c
    else if e.st = 2 then { c with S := { c.S with es := mput c.S.es ip { e with st := 3, asked := 0, at' := IntKind.i64.wrap (c.S.now + c.S.cf.known) } } }
    else if (e.st = 3 ∧ e.asked = 0) ∨ ¬ e.asked < c.S.cf.asks then { S := { c.S with held := IntKind.i64.wrap (c.S.held - e.ws.length), es := mdel c.S.es ip }, asks := c.asks, lost := c.lost ++ e.ws }
    else { S := { c.S with es := mput c.S.es ip (askE c.S e) }, asks := c.asks ++ [ip], lost := c.lost }

def ticks (S : NS) (ks : List Int) : TSt := ks.foldl tick1 ⟨S, [], []⟩

def kRows (l : List Int) : List (List V) := l.map fun s => [V.int .u32 s]

/-- what stands where, for good -/
structure Fx (n m np s1 s2 L : Nat) (F0 : List Nat) (hb : Nat) : Prop where
  d12 : s1 ≠ s2
  dn1 : np ≠ s1
  dn2 : np ≠ s2
  dL1 : L ≠ s1
  dL2 : L ≠ s2
  dLn : L ≠ np
  f1 : s1 ∉ F0
  f2 : s2 ∉ F0
  fn : np ∉ F0
  fL : L ∉ F0
  l1 : s1 < hb
  l2 : s2 < hb
  ln : np < hb
  lL : L < hb
  fl : ∀ j ∈ F0, j < hb

structure TkAt (n m np s1 s2 : Nat) (F0 : List Nat) (hb : Nat) (c : TSt) (g : Hp) (om : O) (pm : List (Int × Nat)) (fp : Int → List Nat) (x1 : Option (Nat × Nat)) (f1 : Bool) (G1 : List Nat) (x2 : Option (Nat × Nat)) (f2 : Bool) (G2 : List Nat) : Prop where
  a : NearAt n c.S g m om pm fp
  sub : ∀ j ∈ foot n m pm fp, j ∈ F0
  p1 : g.get s1 = some (.row [.slc x1 c.asks.length f1] 1 false)
  o1 : Own 1 x1 c.asks.length (kRows c.asks) g G1
  p2 : g.get s2 = some (.row [.slc x2 c.lost.length f2] 1 false)
  o2 : Own 1 x2 c.lost.length (uRows c.lost) g G2
  b1 : ∀ j ∈ G1, hb ≤ j
  b2 : ∀ j ∈ G2, hb ≤ j
  d : ∀ j ∈ G1, j ∉ G2
  np : g.get np = some (.row [.ptr (some (n, 0))] 1 false)
  wf : g.wf
  le : hb ≤ g.next

section
variable {n m np s1 s2 L : Nat} {F0 : List Nat} {hb : Nat} {c : TSt} {g : Hp} {om : O} {pm : List (Int × Nat)} {fp : Int → List Nat} {x1 : Option (Nat × Nat)} {f1 : Bool} {G1 : List Nat} {x2 : Option (Nat × Nat)} {f2 : Bool} {G2 : List Nat}

/-- an entry turned in its place -/
theorem TkAt.turn (fx : Fx n m np s1 s2 L F0 hb) (t : TkAt n m np s1 s2 F0 hb c g om pm fp x1 f1 G1 x2 f2 G2) {ip : Int} {q : Nat} (hq : mget pm ip = some q) {e e' : En} {x : Option (Nat × Nat)} {f : Bool} {G' : List Nat}
    (ho : Own 1 x e'.ws.length (uRows e'.ws) g G') (hG : fp ip = q :: G') (hqG : q ∉ G') {g' : Hp} (gq : g'.get q = some (.row (eRow e' x f) 1 false)) (hs : ∀ j, j ≠ q → g'.get j = g.get j) (hw : g'.wf) (hn : g.next ≤ g'.next) :
    ∃ fp', TkAt n m np s1 s2 F0 hb ⟨{ c.S with es := mput c.S.es ip e' }, c.asks, c.lost⟩ g' om pm fp' x1 f1 G1 x2 f2 G2 := by
  have hip : mget pm ip ≠ none := by rw [hq]; simp
  have hout := t.a.out ip hip
  have hqF : q ∈ foot n m pm fp := mem_foot.2 (.inr (.inr ⟨ip, hip, by rw [hG]; simp⟩))
  have hqF0 := t.sub q hqF
  have hql := fx.fl q hqF0
  have hnq : n ≠ q := fun e => hout.1 (by rw [hG]; simp [e])
  have hmq : m ≠ q := fun e => hout.2 (by rw [hG]; simp [e])
  have hno : mget c.S.es ip ≠ none := fun hh => hip ((t.a.both ip).2 hh)
  refine ⟨_, ⟨t.a.re (S' := { c.S with es := mput c.S.es ip e' }) ip (q :: G') (by rw [hs n hnq]; exact t.a.row) (by rw [hs m hmq]; exact t.a.omg) t.a.mo (by show pm.map Prod.fst = (mput c.S.es ip e').map Prod.fst; rw [mput_some _ _ _ hno]; exact t.a.keys) t.a.nd (fun y hy => ⟨rfl, by show mget (mput c.S.es ip e') y = _; rw [mget_mput, if_neg hy]⟩)
    (fun q' hq' => ?_) (fun y hy hm j hj => hs j (fun e => t.a.dis y ip hy hm hip j hj (by rw [hG, e]; simp))), fun j hj => ?_, by rw [hs s1 (fun e => fx.f1 (e ▸ hqF0))]; exact t.p1, (Own.rep _ _ _ _).loc _ _ _ (fun j hj => hs j (by have := t.b1 j hj; omega)) t.o1, by rw [hs s2 (fun e => fx.f2 (e ▸ hqF0))]; exact t.p2, (Own.rep _ _ _ _).loc _ _ _ (fun j hj => hs j (by have := t.b2 j hj; omega)) t.o2, t.b1, t.b2, t.d, by rw [hs np (fun e => fx.fn (e ▸ hqF0))]; exact t.np, hw, by have := t.le; omega⟩⟩
  · rw [hq] at hq'
    cases hq'
    refine ⟨e', by show mget (mput c.S.es ip e') ip = _; rw [mget_mput, if_pos rfl], ⟨x, f, G', gq, (Own.rep _ _ _ _).loc _ _ _ (fun j hj => hs j (fun e => hqG (e ▸ hj))) ho, rfl, hqG⟩, by rw [← hG]; exact hout.1, by rw [← hG]; exact hout.2, fun y hy hm j hj hjy => t.a.dis y ip hy hm hip j hjy (by rw [hG]; exact hj)⟩
  · rcases mem_foot_re (pm := pm) (fun _ _ => rfl) hj with h1 | h1
    · exact t.sub j h1
    · exact t.sub j (mem_foot.2 (.inr (.inr ⟨ip, hip, by rw [hG]; exact h1⟩)))

/-- asked once more -/
theorem ask_tail (fx : Fx n m np s1 s2 L F0 hb) (t : TkAt n m np s1 s2 F0 hb c g om pm fp x1 f1 G1 x2 f2 G2) {ip : Int} {q : Nat} (hq : mget pm ip = some q) {e : En} {x : Option (Nat × Nat)} {f : Bool} {G' : List Nat} (gq : g.get q = some (.row (eRow e x f) 1 false)) (ho : Own 1 x e.ws.length (uRows e.ws) g G') (hG : fp ip = q :: G') (hqG : q ∉ G') (hl : c.asks.length ≤ 1000000) {Z : Hp → Prop}
    (hZ : ∀ g' fp' x1' f1' G1', TkAt n m np s1 s2 F0 hb ⟨{ c.S with es := mput c.S.es ip (askE c.S e) }, c.asks ++ [ip], c.lost⟩ g' om pm fp' x1' f1' G1' x2 f2 G2 → (∀ j, j < hb → j ∉ F0 → j ≠ s1 → j ≠ s2 → g'.get j = g.get j) → Z g') :
    ∃ a21, g.ld np 0 = some (.ptr a21) ∧ XCalls Try.prog 17 [.ptr a21, .ptr (some (q, 0))] g fun _ h25 => ∃ a22 n23 f11, h25.ld s1 0 = some (.slc a22 n23 f11) ∧ ∀ h26, h26 = h25.alloc (.row [.int .u32 ip] 1 false) → ∃ p3 n24 f12 h27, xapp T h26 35 35 (.slc a22 n23 f11) (.slc (some (h25.next, 0)) 1 true) = some (.slc p3 n24 f12, h27) ∧ ∃ h28, h27.st s1 0 [.slc p3 n24 f12] = some h28 ∧ Z h28 := by
  have hip : mget pm ip ≠ none := by rw [hq]; simp
  have hout := t.a.out ip hip
  have hqF0 := t.sub q (mem_foot.2 (.inr (.inr ⟨ip, hip, by rw [hG]; simp⟩)))
  refine ⟨some (n, 0), by rw [Hp.ld_of t.np]; rfl, ?_⟩
  refine (ask_spec (S := c.S) (m := m) t.wf t.a.row gq (fun e => hout.1 (by rw [hG]; simp [e]))).mono ?_
  rintro _ h5 ⟨-, gq5, s5, n5, w5⟩
  obtain ⟨fp', t5⟩ := t.turn fx hq (e := e) (e' := askE c.S e) ho hG hqG gq5 s5 w5 (by omega)
  refine ⟨x1, c.asks.length, f1, by rw [Hp.ld_of t5.p1]; rfl, ?_⟩
  rintro h6 rfl
  obtain ⟨h7, hx7, o7, s7, l7, w7⟩ := appN (f := f1) (c := [.int .u32 ip]) t35 (by omega) rfl t5.o1 w5 (by show c.asks.length ≤ _; omega)
  have le5 := t5.le
  have hG1 : ∀ j, j < hb → j ∉ G1 := fun j hj hh => by have := t5.b1 j hh; omega
  have p7 : h7.get s1 = some (.row [.slc x1 c.asks.length f1] 1 false) := by rw [s7 _ (by have := fx.l1; omega) (hG1 _ fx.l1)]; exact t5.p1
  refine ⟨_, _, _, h7, hx7, _, Hp.st_of p7 (Nat.le_of_ble_eq_true rfl), ?_⟩
  have sA : ∀ j, j < h5.next → j ∉ G1 → j ≠ s1 → (h7.set s1 (.row (splice [.slc x1 c.asks.length f1] 0 [.slc (some (h5.next + 1, 0)) (c.asks.length + 1) false]) 1 false)).get j = h5.get j := fun j h1 h2 h3 => by rw [Hp.get_set_ne h3, s7 j h1 h2]
  have sB : ∀ j ∈ foot n m pm fp', (h7.set s1 (.row (splice [.slc x1 c.asks.length f1] 0 [.slc (some (h5.next + 1, 0)) (c.asks.length + 1) false]) 1 false)).get j = h5.get j := fun j hj => by
    have h1 := t5.sub j hj
    have h2 := fx.fl j h1
    exact sA j (by omega) (hG1 j h2) (fun e => fx.f1 (e ▸ h1))
  refine hZ _ fp' (some (h5.next + 1, 0)) false [h5.next + 1] ⟨t5.a.loc sB, t5.sub, by rw [Hp.get_set_self]; simp [splice], ?_, by rw [sA _ (by have := fx.l2; omega) (hG1 _ fx.l2) (Ne.symm fx.d12)]; exact t5.p2, ?_, fun j hj => by rw [List.mem_singleton] at hj; omega, t5.b2, fun j hj hj2 => ?_, by rw [sA _ (by have := fx.ln; omega) (hG1 _ fx.ln) fx.dn1]; exact t5.np, w7.set (by have := fx.l1; omega), by show hb ≤ h7.next; omega⟩ (fun j h1 h2 h3 h4 => ?_)
  · have e1 : kRows (c.asks ++ [ip]) = kRows c.asks ++ [[.int .u32 ip]] := by simp [kRows]
    have e2 : (c.asks ++ [ip]).length = c.asks.length + 1 := by simp
    show Own 1 _ (c.asks ++ [ip]).length (kRows (c.asks ++ [ip])) _ _
    rw [e1, e2]
    exact (Own.rep _ _ _ _).loc _ _ _ (fun j hj => by rw [List.mem_singleton] at hj; exact Hp.get_set_ne (by have := fx.l1; omega)) o7
  · exact (Own.rep _ _ _ _).loc _ _ _ (fun j hj => sA j ((Own.rep _ _ _ _).lt w5 t5.o2 hj) (fun hh => t5.d j hh hj) (by have := t5.b2 j hj; have := fx.l1; omega)) t5.o2
  · have := (Own.rep _ _ _ _).lt w5 t5.o2 hj2
    rw [List.mem_singleton] at hj; omega
  · rw [sA j (by omega) (hG1 j h1) h3, s5 j (fun e => h2 (e ▸ hqF0))]

/-- one goes, and what waits is lost -/
theorem lose_tail (fx : Fx n m np s1 s2 L F0 hb) (t : TkAt n m np s1 s2 F0 hb c g om pm fp x1 f1 G1 x2 f2 G2) {ip : Int} {q : Nat} (hq : mget pm ip = some q) {e : En} {x : Option (Nat × Nat)} {f : Bool} {G' : List Nat} (gq : g.get q = some (.row (eRow e x f) 1 false)) (ho : Own 1 x e.ws.length (uRows e.ws) g G') (hG : fp ip = q :: G') (hqG : q ∉ G') (hl : c.lost.length + e.ws.length ≤ 1000000000) {Z : Hp → Prop}
    (hZ : ∀ g' om' pm' fp' x2' f2' G2', TkAt n m np s1 s2 F0 hb ⟨{ c.S with held := IntKind.i64.wrap (c.S.held - e.ws.length), es := mdel c.S.es ip }, c.asks, c.lost ++ e.ws⟩ g' om' pm' fp' x1 f1 G1 x2' f2' G2' → (∀ j, j < hb → j ∉ F0 → j ≠ s1 → j ≠ s2 → g'.get j = g.get j) → Z g') :
    ∃ a10 n11 f3, g.ld s2 0 = some (.slc a10 n11 f3) ∧ onS (some (q, 0)) fun i11 o11 => ∃ a11 n12 f4, g.ld i11 (o11 + 4) = some (.slc a11 n12 f4) ∧ ∃ p1 n13 f5 h15, xapp T g 36 36 (.slc a10 n11 f3) (.slc a11 n12 f4) = some (.slc p1 n13 f5, h15) ∧ ∃ h16, h15.st s2 0 [.slc p1 n13 f5] = some h16 ∧ ∃ a12, h16.ld np 0 = some (.ptr a12) ∧ onS a12 fun i12 o12 => ∃ n14, h16.ld i12 (o12 + 8) = some (.int .i64 n14) ∧
      onS (some (q, 0)) fun i13 o13 => ∃ (a13 : Option (Nat × Nat)) (n15 : Nat) (f6 : Bool), h16.ld i13 (o13 + 4) = some (.slc a13 n15 f6) ∧ onS a12 fun i14 o14 => ∃ h17, h16.st i14 (o14 + 8) [.int .i64 (IntKind.i64.wrap (n14 - n15))] = some h17 ∧ ∃ a14, h17.ld np 0 = some (.ptr a14) ∧ onS a14 fun i15 o15 => ∃ r1, h17.ld i15 (o15 + 6) = some (.map r1) ∧ ∃ h18, xdel T h17 52 (.map r1) (.int .u32 ip) = some h18 ∧ Z h18 := by
  have hip : mget pm ip ≠ none := by rw [hq]; simp
  have hout := t.a.out ip hip
  have hqF : q ∈ foot n m pm fp := mem_foot.2 (.inr (.inr ⟨ip, hip, by rw [hG]; simp⟩))
  have hqF0 := t.sub q hqF
  have hnq : n ≠ q := fun e => hout.1 (by rw [hG]; simp [e])
  have hnF0 := t.sub n (mem_foot.2 (.inl rfl))
  have hmF0 := t.sub m (mem_foot.2 (.inr (.inl rfl)))
  have hnl := fx.fl n hnF0
  have hml := fx.fl m hmF0
  have hql := fx.fl q hqF0
  have hle := t.le
  obtain ⟨ti, ei, ht, hd, he, hsz, hby, hz⟩ := t36
  have hmul : (c.lost.length + e.ws.length) * ei.bytes ≤ 1000000000 * 64 := Nat.mul_le_mul hl hby
  have hud : ∀ k, ti.d ≠ .int k := fun k e => by rw [hd] at e; cases e
  have hen : (uRows e.ws).length = e.ws.length := by simp [uRows]
  have hy : xnews g 1 (.slc x e.ws.length f) = some ((uRows e.ws).length, (uRows e.ws).flatten) := by
    have hw1 : Ow 1 x e.ws.length (uRows e.ws) g G' := by
      obtain ⟨h1, h2, h3⟩ := ho
      refine ⟨h1, h2, ?_⟩
      cases x with
      | none => exact h3
      | some p => obtain ⟨q', o'⟩ := p; obtain ⟨h4, fr, h5, h6⟩ := h3; exact ⟨h4, fr, [], h5, by rw [List.append_nil]; exact h6⟩
    exact hw1.news f
  obtain ⟨p1, f5, G3, h15, hx15, o15, u15, w15⟩ := t.o2.apps (f := f2) t.wf ht hd ht hud he hsz (by omega) hz hy (by simp [uRows]) (by rw [hen]; omega) (by rw [hen]; omega)
  rw [hen] at hx15 o15
  refine ⟨x2, c.lost.length, f2, by rw [Hp.ld_of t.p2]; rfl, x, e.ws.length, f, by rw [Hp.ld_of gq]; rfl, p1, _, f5, h15, hx15, ?_⟩
  have hG2 : ∀ j, j < hb → j ∉ G2 := fun j hj hh => by have := t.b2 j hh; omega
  have hle15 := u15.le
  have s15 : ∀ j, j < g.next → j ∉ G2 → h15.get j = g.get j := u15.same
  have p15 : h15.get s2 = some (.row [.slc x2 c.lost.length f2] 1 false) := by rw [s15 _ (by have := fx.l2; omega) (hG2 _ fx.l2)]; exact t.p2
  refine ⟨_, Hp.st_of p15 (Nat.le_of_ble_eq_true rfl), ?_⟩
  obtain ⟨h16, e16⟩ : ∃ h16, h16 = h15.set s2 (.row (splice [.slc x2 c.lost.length f2] 0 [.slc p1 (c.lost.length + e.ws.length) f5]) 1 false) := ⟨_, rfl⟩
  have p16 : h16.get s2 = some (.row [.slc p1 (c.lost.length + e.ws.length) f5] 1 false) := by rw [e16, Hp.get_set_self]; simp [splice]
  have s16 : ∀ j, j ≠ s2 → h16.get j = h15.get j := fun j hj => by rw [e16]; exact Hp.get_set_ne hj
  have n16 : h16.next = h15.next := by rw [e16]; rfl
  have w16 : h16.wf := by rw [e16]; exact w15.set (by have := fx.l2; omega)
  rw [← e16]
  clear e16
  have sF : ∀ j ∈ F0, h16.get j = g.get j := fun j hj => by
    have := fx.fl j hj
    rw [s16 j (fun e => fx.f2 (e ▸ hj)), s15 j (by omega) (hG2 j this)]
  have np16 : h16.get np = some (.row [.ptr (some (n, 0))] 1 false) := by rw [s16 _ fx.dn2, s15 _ (by have := fx.ln; omega) (hG2 _ fx.ln)]; exact t.np
  have gn16 : h16.get n = some (.row (nRow c.S m) 1 false) := by rw [sF n hnF0]; exact t.a.row
  have gq16 : h16.get q = some (.row (eRow e x f) 1 false) := by rw [sF q hqF0]; exact gq
  refine ⟨some (n, 0), by rw [Hp.ld_of np16]; rfl, c.S.held, by rw [Hp.ld_of gn16]; rfl, x, e.ws.length, f, by rw [Hp.ld_of gq16]; rfl, _, Hp.st_of gn16 (Nat.le_of_ble_eq_true rfl), ?_⟩
  obtain ⟨h17, e17⟩ : ∃ h17, h17 = h16.set n (.row (splice (nRow c.S m) (0 + 8) [.int .i64 (IntKind.i64.wrap (c.S.held - e.ws.length))]) 1 false) := ⟨_, rfl⟩
  have gn17 : h17.get n = some (.row (nRow { c.S with held := IntKind.i64.wrap (c.S.held - e.ws.length) } m) 1 false) := by rw [e17, Hp.get_set_self]; rfl
  have s17 : ∀ j, j ≠ n → h17.get j = h16.get j := fun j hj => by rw [e17]; exact Hp.get_set_ne hj
  have n17 : h17.next = h16.next := by rw [e17]; rfl
  have w17 : h17.wf := by rw [e17]; exact w16.set (by omega)
  rw [← e17]
  clear e17
  have np17 : h17.get np = some (.row [.ptr (some (n, 0))] 1 false) := by rw [s17 np (fun e => fx.fn (e ▸ hnF0))]; exact np16
  obtain ⟨om', mo', hdel⟩ := t.a.mo.del mtN ip
  have gm17 : h17.get m = some om := by rw [s17 m (Ne.symm t.a.nm), sF m hmF0]; exact t.a.omg
  refine ⟨some (n, 0), by rw [Hp.ld_of np17]; rfl, some m, by rw [Hp.ld_of gn17]; rfl, _, hdel h17 m gm17, ?_⟩
  have s18 : ∀ j, j ≠ m → (h17.set m om').get j = h17.get j := fun j hj => Hp.get_set_ne hj
  have sE : ∀ j ∈ F0, j ≠ n → j ≠ m → (h17.set m om').get j = g.get j := fun j hj h1 h2 => by rw [s18 j h2, s17 j h1, sF j hj]
  have sO : ∀ j, j < g.next → j ∉ F0 → j ∉ G2 → j ≠ s2 → (h17.set m om').get j = g.get j := fun j h0 h1 h2 h3 => by rw [s18 j (fun e => h1 (e ▸ hmF0)), s17 j (fun e => h1 (e ▸ hnF0)), s16 j h3, s15 j h0 h2]
  have hF0b : ∀ j, hb ≤ j → j ∉ F0 := fun j hj hh => by have := fx.fl j hh; omega
  have hke : mget (mdel pm ip) ip = none := mget_self _ _ t.a.nd
  refine hZ _ om' (mdel pm ip) _ p1 f5 G3 ⟨t.a.re (S' := { c.S with held := IntKind.i64.wrap (c.S.held - e.ws.length), es := mdel c.S.es ip }) ip [] (by rw [s18 n t.a.nm]; exact gn17) Hp.get_set_self mo' (by show (mdel pm ip).map Prod.fst = (mdel c.S.es ip).map Prod.fst; rw [mdel_erase, mdel_erase, t.a.keys]) (t.a.nd.sublist ((mdel_sub pm ip).map _)) (fun y hy => ⟨mget_mdel _ _ _ hy, mget_mdel _ _ _ hy⟩)
    (fun q' hq' => by rw [hke] at hq'; cases hq') (fun y hy hm j hj => by
      have ho := t.a.out y hm
      exact sE j (t.sub j (mem_foot.2 (.inr (.inr ⟨y, hm, hj⟩)))) (fun e => ho.1 (e ▸ hj)) (fun e => ho.2 (e ▸ hj))), fun j hj => ?_, ?_, ?_, ?_, ?_, t.b1, fun j hj => ?_, fun j hj hj2 => ?_, ?_, w17.set (by omega), by show hb ≤ h17.next; omega⟩ (fun j h1 h2 h3 h4 => sO j (by omega) h2 (hG2 j h1) h4)
  · rcases mem_foot_re (pm := pm) (fun y hy => mget_mdel _ _ _ hy) hj with h1 | h1
    · exact t.sub j h1
    · simp at h1
  · rw [sO _ (by have := fx.l1; omega) fx.f1 (hG2 _ fx.l1) fx.d12]; exact t.p1
  · exact (Own.rep _ _ _ _).loc _ _ _ (fun j hj => sO j ((Own.rep _ _ _ _).lt t.wf t.o1 hj) (hF0b j (t.b1 j hj)) (t.d j hj) (by have := t.b1 j hj; have := fx.l2; omega)) t.o1
  · rw [s18 s2 (fun e => fx.f2 (e ▸ hmF0)), s17 s2 (fun e => fx.f2 (e ▸ hnF0))]
    have e2 : (c.lost ++ e.ws).length = c.lost.length + e.ws.length := by simp
    show _ = some (O.row [.slc p1 (c.lost ++ e.ws).length f5] 1 false)
    rw [e2]; exact p16
  · have e1 : uRows (c.lost ++ e.ws) = uRows c.lost ++ uRows e.ws := by simp [uRows]
    have e2 : (c.lost ++ e.ws).length = c.lost.length + e.ws.length := by simp
    show Own 1 p1 (c.lost ++ e.ws).length (uRows (c.lost ++ e.ws)) _ _
    rw [e1, e2]
    refine (Own.rep _ _ _ _).loc _ _ _ (fun j hj => ?_) o15
    have hjb : hb ≤ j := by
      rcases u15.new j hj with h1 | h1
      · exact t.b2 j h1
      · omega
    rw [s18 j (by omega), s17 j (by omega), s16 j (by have := fx.l2; omega)]
  · rcases u15.new j hj with h1 | h1
    · exact t.b2 j h1
    · omega
  · rcases u15.new j hj2 with h1 | h1
    · exact t.d j hj h1
    · have := (Own.rep _ _ _ _).lt t.wf t.o1 hj; omega
  · rw [s18 np (fun e => fx.fn (e ▸ hmF0))]; exact np17
end
end Go.Vex.Nr
