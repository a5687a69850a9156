/-
  Who is near (layer 9) on the heap: the representation, and the contracts of New, none, time, ask, State.
-/
import Derived.Test.YtkpkpnmkoejidaaVexEE
import Derived.Test.YtkpkpnmkoejidaaVexFF
import Derived.Test.YtkpkpnmkoejidaaVexGG
import Derived.Test.YtkpkpnmkoejidaaTab09
import Derived.Test.YtkpkpnmkoejidaaXa09
set_option linter.unusedVariables false
set_option linter.unusedSimpArgs false
namespace Go.Vex.Nr
open Go.Proofs

structure Quiet (h h' : Hp) : Prop where
  same : ∀ j, j < h.next → h'.get j = h.get j
  le : h.next ≤ h'.next
  wf : h'.wf

theorem Quiet.refl {h : Hp} (hw : h.wf) : Quiet h h := ⟨fun _ _ => rfl, Nat.le_refl _, hw⟩
theorem Quiet.trans {h h' h'' : Hp} (q : Quiet h h') (r : Quiet h' h'') : Quiet h h'' := ⟨fun j hj => by rw [r.same j (by have := q.le; omega), q.same j hj], by have := q.le; have := r.le; omega, r.wf⟩
theorem Quiet.alloc {h : Hp} (hw : h.wf) (o : O) : Quiet h (h.alloc o) := ⟨fun j hj => Hp.get_alloc_ne (by omega), by simp [Hp.alloc_next], hw.alloc⟩
theorem Quiet.upd {h h' : Hp} (q : Quiet h h') (F : List Nat) : Upd h h' F F := Upd.quiet F q.same q.le

structure Cf where
  most : Int
  waits : Int
  each : Int
  known : Int
  asks : Int
  pause : Int

structure En where
  st : Int
  mac : Int
  at' : Int
  asked : Int
  ws : List Int

structure NS where
  cf : Cf
  now : Int
  held : Int
  es : List (Int × En)

abbrev kK : Int → V := fun n => .int .u32 n
abbrev kP : Nat → V := fun q => .ptr (some (q, 0))
def uRows (l : List Int) : List (List V) := l.map fun s => [V.int .u64 s]
def nRow (S : NS) (m : Nat) : List V := [.int .i64 S.cf.most, .int .i64 S.cf.waits, .int .i64 S.cf.each, .int .i64 S.cf.known, .int .i64 S.cf.asks, .int .i64 S.cf.pause, .map (some m), .int .i64 S.now, .int .i64 S.held]
def eRow (e : En) (a : Option (Nat × Nat)) (f : Bool) : List V := [.int .u8 e.st, .int .u64 e.mac, .int .i64 e.at', .int .i64 e.asked, .slc a e.ws.length f]

theorem mtN : MT T 52 kK (.ptr none) := ⟨(T 52).get rfl, 33, 57, (T 57).get rfl, rfl, rfl, rfl, rfl, KL.int (ti := (T 33).get rfl) rfl rfl⟩

def EnR (q : Nat) (e : En) (h : Hp) (G : List Nat) : Prop := ∃ a f G', h.get q = some (.row (eRow e a f) 1 false) ∧ Own 1 a e.ws.length (uRows e.ws) h G' ∧ G = q :: G' ∧ q ∉ G'

theorem EnR.rep (q : Nat) (e : En) : Rep (EnR q e) where
  loc := fun h h' G hs ⟨a, f, G', h1, h2, h3, h4⟩ => by
    subst h3
    exact ⟨a, f, G', by rw [hs q (by simp)]; exact h1, (Own.rep _ _ _ _).loc _ _ _ (fun j hj => hs j (by simp [hj])) h2, rfl, h4⟩
  dom := fun h G ⟨a, f, G', h1, h2, h3, h4⟩ j hj => by
    subst h3
    rcases List.mem_cons.1 hj with rfl | hj
    · exact ⟨_, h1, rfl⟩
    · exact (Own.rep _ _ _ _).dom _ _ h2 j hj

structure NearAt (n : Nat) (S : NS) (h : Hp) (m : Nat) (om : O) (pm : List (Int × Nat)) (fp : Int → List Nat) : Prop where
  row : h.get n = some (.row (nRow S m) 1 false)
  omg : h.get m = some om
  mo : MO kK kP pm om
  keys : pm.map Prod.fst = S.es.map Prod.fst
  nd : (pm.map Prod.fst).Nodup
  ent : ∀ ip q, mget pm ip = some q → ∃ e, mget S.es ip = some e ∧ EnR q e h (fp ip)
  dis : ∀ ip ip', ip ≠ ip' → mget pm ip ≠ none → mget pm ip' ≠ none → ∀ j ∈ fp ip, j ∉ fp ip'
  nm : n ≠ m
  out : ∀ ip, mget pm ip ≠ none → n ∉ fp ip ∧ m ∉ fp ip

def foot (n m : Nat) (pm : List (Int × Nat)) (fp : Int → List Nat) : List Nat := n :: m :: pm.flatMap fun x => fp x.1

theorem mem_foot {n m : Nat} {pm : List (Int × Nat)} {fp : Int → List Nat} {j : Nat} : j ∈ foot n m pm fp ↔ j = n ∨ j = m ∨ ∃ ip, mget pm ip ≠ none ∧ j ∈ fp ip := by
  unfold foot
  simp only [List.mem_cons, List.mem_flatMap]
  constructor
  · rintro (h | h | ⟨x, hx, hj⟩)
    · exact .inl h
    · exact .inr (.inl h)
    · exact .inr (.inr ⟨x.1, (mget_mem _ _).2 (List.mem_map_of_mem hx), hj⟩)
  · rintro (h | h | ⟨ip, hx, hj⟩)
    · exact .inl h
    · exact .inr (.inl h)
    · obtain ⟨x, hx', e⟩ := List.mem_map.1 ((mget_mem _ _).1 hx)
      subst e
      exact .inr (.inr ⟨x, hx', hj⟩)

def NearR (n : Nat) (S : NS) (h : Hp) (F : List Nat) : Prop := ∃ m om pm fp, NearAt n S h m om pm fp ∧ F = foot n m pm fp

theorem NearAt.loc {n : Nat} {S : NS} {h h' : Hp} {m : Nat} {om : O} {pm : List (Int × Nat)} {fp : Int → List Nat} (a : NearAt n S h m om pm fp) (hs : ∀ j ∈ foot n m pm fp, h'.get j = h.get j) : NearAt n S h' m om pm fp :=
  ⟨by rw [hs n (mem_foot.2 (.inl rfl))]; exact a.row, by rw [hs m (mem_foot.2 (.inr (.inl rfl)))]; exact a.omg, a.mo, a.keys, a.nd, fun ip q hq => by
    obtain ⟨e, he, hr⟩ := a.ent ip q hq
    exact ⟨e, he, (EnR.rep _ _).loc _ _ _ (fun j hj => hs j (mem_foot.2 (.inr (.inr ⟨ip, by rw [hq]; simp, hj⟩)))) hr⟩, a.dis, a.nm, a.out⟩

theorem NearR.rep (n : Nat) (S : NS) : Rep (NearR n S) where
  loc := fun h h' F hs ⟨m, om, pm, fp, a, e⟩ => by
    subst e
    exact ⟨m, om, pm, fp, a.loc hs, rfl⟩
  dom := fun h F ⟨m, om, pm, fp, a, e⟩ j hj => by
    subst e
    rcases mem_foot.1 hj with rfl | rfl | ⟨ip, hip, hj⟩
    · exact ⟨_, a.row, rfl⟩
    · exact ⟨_, a.omg, a.mo.rw⟩
    · obtain ⟨q, hq⟩ : ∃ q, mget pm ip = some q := by
        cases hh : mget pm ip with
        | none => exact absurd hh hip
        | some q => exact ⟨q, rfl⟩
      obtain ⟨e, he, hr⟩ := a.ent ip q hq
      exact (EnR.rep _ _).dom _ _ hr j hj

section
variable {n : Nat} {S : NS} {h : Hp} {F : List Nat} {m : Nat} {om : O} {pm : List (Int × Nat)} {fp : Int → List Nat}

theorem NearAt.lt (a : NearAt n S h m om pm fp) (hw : h.wf) : ∀ j ∈ foot n m pm fp, j < h.next := fun j hj => (NearR.rep n S).lt hw ⟨m, om, pm, fp, a, rfl⟩ hj
theorem NearAt.nn (a : NearAt n S h m om pm fp) (hw : h.wf) : n < h.next := hw _ _ a.row
theorem NearAt.mn (a : NearAt n S h m om pm fp) (hw : h.wf) : m < h.next := hw _ _ a.omg

theorem NearAt.both (a : NearAt n S h m om pm fp) (ip : Int) : mget pm ip = none ↔ mget S.es ip = none := by
  have h1 := mget_mem pm ip
  have h2 := mget_mem S.es ip
  rw [a.keys] at h1
  constructor
  · intro hn; cases hh : mget S.es ip with
    | none => rfl
    | some x => exact absurd hn (h1.2 (h2.1 (by rw [hh]; simp)))
  · intro hn; cases hh : mget pm ip with
    | none => rfl
    | some x => exact absurd hn (h2.2 (h1.1 (by rw [hh]; simp)))

theorem NearAt.len (a : NearAt n S h m om pm fp) : pm.length = S.es.length := by have := congrArg List.length a.keys; simpa using this

/-- one entry came, turned or went -/
theorem NearAt.re (a : NearAt n S h m om pm fp) {h' : Hp} {S' : NS} {om' : O} {pm' : List (Int × Nat)} (ip : Int) (G' : List Nat)
    (row : h'.get n = some (.row (nRow S' m) 1 false)) (om1 : h'.get m = some om') (mo : MO kK kP pm' om') (keys : pm'.map Prod.fst = S'.es.map Prod.fst) (nd : (pm'.map Prod.fst).Nodup)
    (hold : ∀ x, x ≠ ip → mget pm' x = mget pm x ∧ mget S'.es x = mget S.es x)
    (hent : ∀ q, mget pm' ip = some q → ∃ e, mget S'.es ip = some e ∧ EnR q e h' G' ∧ n ∉ G' ∧ m ∉ G' ∧ ∀ x, x ≠ ip → mget pm x ≠ none → ∀ j ∈ G', j ∉ fp x)
    (hs : ∀ x, x ≠ ip → mget pm x ≠ none → ∀ j ∈ fp x, h'.get j = h.get j) : NearAt n S' h' m om' pm' (fun x => if x = ip then G' else fp x) where
  row := row
  omg := om1
  mo := mo
  keys := keys
  nd := nd
  ent := fun x q hq => by
    by_cases e : x = ip
    · subst e
      obtain ⟨e, he, hr, _⟩ := hent q hq
      exact ⟨e, he, by simp only [if_true]; exact hr⟩
    · simp only [if_neg e]
      obtain ⟨h1, h2⟩ := hold x e
      rw [h1] at hq
      rw [h2]
      obtain ⟨e', he, hr⟩ := a.ent x q hq
      exact ⟨e', he, (EnR.rep _ _).loc _ _ _ (hs x e (by rw [hq]; simp)) hr⟩
  dis := fun x y hxy hx hy j hj => by
    by_cases ex : x = ip
    · have ey : y ≠ ip := fun e => hxy (ex.trans e.symm)
      simp only [if_pos ex] at hj
      simp only [if_neg ey]
      rw [(hold y ey).1] at hy
      rw [ex] at hx
      obtain ⟨q, hq⟩ : ∃ q, mget pm' ip = some q := by cases hh : mget pm' ip with
        | none => exact absurd hh hx
        | some q => exact ⟨q, rfl⟩
      obtain ⟨_, _, _, _, _, hd⟩ := hent q hq
      exact hd y ey hy j hj
    · simp only [if_neg ex] at hj
      rw [(hold x ex).1] at hx
      by_cases ey : y = ip
      · simp only [if_pos ey]
        rw [ey] at hy
        obtain ⟨q, hq⟩ : ∃ q, mget pm' ip = some q := by cases hh : mget pm' ip with
          | none => exact absurd hh hy
          | some q => exact ⟨q, rfl⟩
        obtain ⟨_, _, _, _, _, hd⟩ := hent q hq
        exact fun hj2 => hd x ex hx j hj2 hj
      · simp only [if_neg ey]
        rw [(hold y ey).1] at hy
        exact a.dis x y hxy hx hy j hj
  nm := a.nm
  out := fun x hx => by
    by_cases ex : x = ip
    · simp only [if_pos ex]
      rw [ex] at hx
      obtain ⟨q, hq⟩ : ∃ q, mget pm' ip = some q := by cases hh : mget pm' ip with
        | none => exact absurd hh hx
        | some q => exact ⟨q, rfl⟩
      obtain ⟨_, _, _, h1, h2, _⟩ := hent q hq
      exact ⟨h1, h2⟩
    · simp only [if_neg ex]
      rw [(hold x ex).1] at hx
      exact a.out x hx

theorem mem_foot_re {n m : Nat} {pm pm' : List (Int × Nat)} {fp : Int → List Nat} {ip : Int} {G' : List Nat} {j : Nat} (hold : ∀ x, x ≠ ip → mget pm' x = mget pm x) (hj : j ∈ foot n m pm' (fun x => if x = ip then G' else fp x)) : j ∈ foot n m pm fp ∨ j ∈ G' := by
  rcases mem_foot.1 hj with h | h | ⟨x, hx, hj⟩
  · exact .inl (mem_foot.2 (.inl h))
  · exact .inl (mem_foot.2 (.inr (.inl h)))
  · by_cases ex : x = ip
    · simp only [if_pos ex] at hj; exact .inr hj
    · simp only [if_neg ex] at hj
      rw [hold x ex] at hx
      exact .inl (mem_foot.2 (.inr (.inr ⟨x, hx, hj⟩)))

/-- the near's own row turned -/
theorem NearAt.self (a : NearAt n S h m om pm fp) {h' : Hp} {S' : NS} (row : h'.get n = some (.row (nRow S' m) 1 false)) (he : S'.es = S.es) (hs : ∀ j ∈ foot n m pm fp, j ≠ n → h'.get j = h.get j) : NearAt n S' h' m om pm fp where
  row := row
  omg := by rw [hs m (mem_foot.2 (.inr (.inl rfl))) (Ne.symm a.nm)]; exact a.omg
  mo := a.mo
  keys := by rw [he]; exact a.keys
  nd := a.nd
  ent := fun ip q hq => by
    obtain ⟨e, h1, hr⟩ := a.ent ip q hq
    have hne : mget pm ip ≠ none := by rw [hq]; simp
    exact ⟨e, by rw [he]; exact h1, (EnR.rep _ _).loc _ _ _ (fun j hj => hs j (mem_foot.2 (.inr (.inr ⟨ip, hne, hj⟩))) (fun e => (a.out ip hne).1 (e ▸ hj))) hr⟩
  dis := a.dis
  nm := a.nm
  out := a.out

theorem none_spec (a : NearAt n S h m om pm fp) : XCalls Try.prog 15 [.ptr (some (n, 0))] h fun v h' => v = .bool false ∧ h' = h := by
  apply x15; unfold X15
  exact ⟨some m, by rw [Hp.ld_of a.row]; rfl, rfl, rfl⟩

def timeF (S : NS) (now : Int) : NS := { S with now := max S.now (min now 17592186044416) }

theorem time_spec (a : NearAt n S h m om pm fp) (hw : h.wf) (now : Int) : XCalls Try.prog 16 [.ptr (some (n, 0)), .int .i64 now] h fun v h' => v = .tup [] ∧ NearAt n (timeF S now) h' m om pm fp ∧ (∀ j, j ≠ n → h'.get j = h.get j) ∧ h'.next = h.next ∧ h'.wf := by
  apply x16; unfold X16
  refine ⟨S.now, by rw [Hp.ld_of a.row]; rfl, _, Hp.st_of a.row (Nat.le_of_ble_eq_true rfl), ?_⟩
  have e : (bif ltI S.now (bif ltI 17592186044416 now then 17592186044416 else now) then bif ltI 17592186044416 now then 17592186044416 else now else S.now) = max S.now (min now 17592186044416) := by
    rw [ltI_eq, ltI_eq]
    by_cases h1 : (17592186044416 : Int) < now
    · simp only [decide_eq_true h1, cond_true]
      by_cases h2 : S.now < 17592186044416
      · simp only [decide_eq_true h2, cond_true]; omega
      · simp only [decide_eq_false h2, cond_false]; omega
    · simp only [decide_eq_false h1, cond_false]
      by_cases h2 : S.now < now
      · simp only [decide_eq_true h2, cond_true]; omega
      · simp only [decide_eq_false h2, cond_false]; omega
  rw [e]
  refine ⟨rfl, a.self (S' := timeF S now) ?_ rfl (fun j _ hj => Hp.get_set_ne hj), fun j hj => Hp.get_set_ne hj, rfl, hw.set (a.nn hw)⟩
  rw [Hp.get_set_self]; rfl

def askE (S : NS) (e : En) : En := { e with asked := IntKind.i64.wrap (e.asked + 1), at' := IntKind.i64.wrap (S.now + S.cf.pause) }

theorem ask_spec (hw : h.wf) (hn : h.get n = some (.row (nRow S m) 1 false)) {q : Nat} {e : En} {x : Option (Nat × Nat)} {f : Bool} (hq : h.get q = some (.row (eRow e x f) 1 false)) (hne : n ≠ q) :
    XCalls Try.prog 17 [.ptr (some (n, 0)), .ptr (some (q, 0))] h fun v h' => v = .tup [] ∧ h'.get q = some (.row (eRow (askE S e) x f) 1 false) ∧ (∀ j, j ≠ q → h'.get j = h.get j) ∧ h'.next = h.next ∧ h'.wf := by
  apply x17; unfold X17
  have hql := hw _ _ hq
  refine ⟨e.asked, by rw [Hp.ld_of hq]; rfl, _, Hp.st_of hq (Nat.le_of_ble_eq_true rfl), ?_⟩
  obtain ⟨h1, hh1⟩ : ∃ h1, h1 = h.set q (.row (splice (eRow e x f) 3 [.int .i64 (IntKind.i64.wrap (e.asked + 1))]) 1 false) := ⟨_, rfl⟩
  have g1 : h1.get q = some (.row (eRow { e with asked := IntKind.i64.wrap (e.asked + 1) } x f) 1 false) := by rw [hh1, Hp.get_set_self]; rfl
  have s1 : ∀ j, j ≠ q → h1.get j = h.get j := fun j hj => by rw [hh1]; exact Hp.get_set_ne hj
  have n1 : h1.next = h.next := by rw [hh1]; rfl
  have w1 : h1.wf := by rw [hh1]; exact hw.set hql
  rw [← hh1]
  clear hh1
  have gn : h1.get n = some (.row (nRow S m) 1 false) := by rw [s1 n hne]; exact hn
  refine ⟨S.now, by rw [Hp.ld_of gn]; rfl, S.cf.pause, by rw [Hp.ld_of gn]; rfl, _, Hp.st_of g1 (Nat.le_of_ble_eq_true rfl), ?_⟩
  exact ⟨rfl, by rw [Hp.get_set_self]; rfl, fun j hj => by rw [Hp.get_set_ne hj]; exact s1 j hj, n1, w1.set (by omega)⟩

theorem NearAt.look (a : NearAt n S h m om pm fp) (ip : Int) : xlook T h 52 (.map (some m)) (.int .u32 ip) false = some (.ptr ((mget pm ip).map fun q => (q, 0))) := by
  rw [a.mo.look mtN ip h m a.omg]
  cases mget pm ip <;> rfl
theorem NearAt.look2 (a : NearAt n S h m om pm fp) (ip : Int) : xlook T h 52 (.map (some m)) (.int .u32 ip) true = some (.tup [.ptr ((mget pm ip).map fun q => (q, 0)), .bool (mget pm ip).isSome]) := by
  rw [a.mo.look2 mtN ip h m a.omg]
  cases mget pm ip <;> rfl

def stateF (S : NS) (ip : Int) : Int := match mget S.es ip with
  | some e => e.st
  | none => 0

theorem state_spec (a : NearAt n S h m om pm fp) (ip : Int) : XCalls Try.prog 9 [.ptr (some (n, 0)), .int .u32 ip] h fun v h' => v = .int .u8 (stateF S ip) ∧ h' = h := by
  apply x9; unfold X9
  refine (none_spec a).mono ?_
  rintro _ _ ⟨rfl, rfl⟩
  refine ⟨_, rfl, ?_⟩
  refine ⟨some m, by rw [Hp.ld_of a.row]; rfl, _, a.look ip, ?_⟩
  cases hq : mget pm ip with
  | none => exact ⟨by unfold stateF; rw [(a.both ip).1 hq], rfl⟩
  | some q =>
    obtain ⟨e, he, x, f, G', hr, _⟩ := a.ent ip q hq
    refine ⟨some m, by rw [Hp.ld_of a.row]; rfl, some (q, 0), by rw [a.look ip, hq]; rfl, e.st, by rw [Hp.ld_of hr]; rfl, ?_⟩
    exact ⟨by unfold stateF; rw [he], rfl⟩

/-- which confs may be -/
structure CfOk (c : Cf) : Prop where
  most : 1 ≤ c.most ∧ c.most ≤ 1024
  waits : 0 ≤ c.waits ∧ c.waits ≤ 1024
  each : 0 ≤ c.each
  known : 1 ≤ c.known ∧ c.known ≤ 1099511627776
  asks : 1 ≤ c.asks ∧ c.asks ≤ 1048576
  pause : 1 ≤ c.pause ∧ c.pause ≤ 1099511627776

theorem new_spec {h : Hp} (hw : h.wf) (c : Cf) : XCalls Try.prog 6 [.agg [.int .i64 c.most, .int .i64 c.waits, .int .i64 c.each, .int .i64 c.known, .int .i64 c.asks, .int .i64 c.pause]] h fun v h' => (v = .tup [.ptr none, .int .i64 2] ∧ Quiet h h') ∨
    ∃ n F, v = .tup [.ptr (some (n, 0)), .int .i64 0] ∧ CfOk c ∧ NearR n ⟨c, 0, 0, []⟩ h' F ∧ Quiet h h' ∧ ∀ j ∈ F, h.next ≤ j := by
  apply x6; unfold X6
  rintro h1 rfl
  have q1 := Quiet.alloc hw (.row [.int .i64 c.most, .int .i64 c.waits, .int .i64 c.each, .int .i64 c.known, .int .i64 c.asks, .int .i64 c.pause] 1 false)
  have g1 : (h.alloc (.row [.int .i64 c.most, .int .i64 c.waits, .int .i64 c.each, .int .i64 c.known, .int .i64 c.asks, .int .i64 c.pause] 1 false)).get h.next = some (.row [.int .i64 c.most, .int .i64 c.waits, .int .i64 c.each, .int .i64 c.known, .int .i64 c.asks, .int .i64 c.pause] 1 false) := Hp.get_alloc_self
  have n1 : (h.alloc (.row [.int .i64 c.most, .int .i64 c.waits, .int .i64 c.each, .int .i64 c.known, .int .i64 c.asks, .int .i64 c.pause] 1 false)).next = h.next + 1 := Hp.alloc_next _ _
  generalize h.alloc (.row [.int .i64 c.most, .int .i64 c.waits, .int .i64 c.each, .int .i64 c.known, .int .i64 c.asks, .int .i64 c.pause] 1 false) = h1 at *
  refine ⟨c.most, by simp (disch := (first | omega | (simp only [Hp.alloc_next, Hp.set_next] <;> omega) | (simp (disch := (first | omega | (simp only [Hp.alloc_next, Hp.set_next] <;> omega) | fail)) only [Hp.get_set_self, Hp.get_set_ne, Hp.get_alloc_self, Hp.get_alloc_ne, Hp.get_alloc_at, Hp.get_set_at, Hp.set_next, Hp.alloc_next, g1]; done) | fail)) only [Hp.st, Hp.ld, Hp.lda, splice, ble_eq', if_true, if_false, ite_true, ite_false, cond_true, cond_false, decide_true, decide_false, List.length_cons, List.length_nil, List.take_zero, List.take_succ_cons, List.nil_append, List.cons_append, List.append_nil, List.drop_succ_cons, List.drop_zero, List.drop_nil, List.getElem?_cons_succ, List.getElem?_cons_zero, Nat.reduceAdd, Nat.reduceLeDiff, Nat.reduceEqDiff, Nat.zero_add, Nat.add_zero, Nat.le_refl, Nat.zero_le, Nat.succ_ne_self, Nat.mul_one, Int.toNat_natCast, Option.some.injEq, Option.isNone_some, Option.isNone_none, V.int.injEq, V.str.injEq, V.bool.injEq, V.ptr.injEq, V.slc.injEq, V.map.injEq, V.agg.injEq, V.tup.injEq, List.cons.injEq, Prod.mk.injEq, onS, true_and, and_true, and_assoc, exists_and_left, exists_eq_left', forall_eq, heq_eq_eq, reduceCtorEq, Bool.not_true, Bool.not_false, eq_self, not_false_eq_true, Nat.left_eq_add, Nat.add_eq_left, Nat.add_left_cancel_iff, Nat.add_right_cancel_iff, Nat.reduceEqDiff, Nat.one_ne_zero, Hp.get_set_self, Hp.get_set_ne, Hp.get_alloc_self, Hp.get_alloc_ne, Hp.get_alloc_at, Hp.get_set_at, Hp.set_next, Hp.alloc_next, Option.some_ne_none, V.tup.injEq, Option.isSome_some, Option.isSome_none, exists_eq_left, exists_eq, Nat.mul_zero, g1], ?_⟩
  cases c1 : ltI c.most 1 with
  | true => exact .inl ⟨rfl, q1⟩
  | false =>
  refine ⟨c.most, by simp (disch := (first | omega | (simp only [Hp.alloc_next, Hp.set_next] <;> omega) | (simp (disch := (first | omega | (simp only [Hp.alloc_next, Hp.set_next] <;> omega) | fail)) only [Hp.get_set_self, Hp.get_set_ne, Hp.get_alloc_self, Hp.get_alloc_ne, Hp.get_alloc_at, Hp.get_set_at, Hp.set_next, Hp.alloc_next, g1]; done) | fail)) only [Hp.st, Hp.ld, Hp.lda, splice, ble_eq', if_true, if_false, ite_true, ite_false, cond_true, cond_false, decide_true, decide_false, List.length_cons, List.length_nil, List.take_zero, List.take_succ_cons, List.nil_append, List.cons_append, List.append_nil, List.drop_succ_cons, List.drop_zero, List.drop_nil, List.getElem?_cons_succ, List.getElem?_cons_zero, Nat.reduceAdd, Nat.reduceLeDiff, Nat.reduceEqDiff, Nat.zero_add, Nat.add_zero, Nat.le_refl, Nat.zero_le, Nat.succ_ne_self, Nat.mul_one, Int.toNat_natCast, Option.some.injEq, Option.isNone_some, Option.isNone_none, V.int.injEq, V.str.injEq, V.bool.injEq, V.ptr.injEq, V.slc.injEq, V.map.injEq, V.agg.injEq, V.tup.injEq, List.cons.injEq, Prod.mk.injEq, onS, true_and, and_true, and_assoc, exists_and_left, exists_eq_left', forall_eq, heq_eq_eq, reduceCtorEq, Bool.not_true, Bool.not_false, eq_self, not_false_eq_true, Nat.left_eq_add, Nat.add_eq_left, Nat.add_left_cancel_iff, Nat.add_right_cancel_iff, Nat.reduceEqDiff, Nat.one_ne_zero, Hp.get_set_self, Hp.get_set_ne, Hp.get_alloc_self, Hp.get_alloc_ne, Hp.get_alloc_at, Hp.get_set_at, Hp.set_next, Hp.alloc_next, Option.some_ne_none, V.tup.injEq, Option.isSome_some, Option.isSome_none, exists_eq_left, exists_eq, Nat.mul_zero, g1], ?_⟩
  cases c2 : ltI 1024 c.most with
  | true => exact .inl ⟨rfl, q1⟩
  | false =>
  refine ⟨c.waits, by simp (disch := (first | omega | (simp only [Hp.alloc_next, Hp.set_next] <;> omega) | (simp (disch := (first | omega | (simp only [Hp.alloc_next, Hp.set_next] <;> omega) | fail)) only [Hp.get_set_self, Hp.get_set_ne, Hp.get_alloc_self, Hp.get_alloc_ne, Hp.get_alloc_at, Hp.get_set_at, Hp.set_next, Hp.alloc_next, g1]; done) | fail)) only [Hp.st, Hp.ld, Hp.lda, splice, ble_eq', if_true, if_false, ite_true, ite_false, cond_true, cond_false, decide_true, decide_false, List.length_cons, List.length_nil, List.take_zero, List.take_succ_cons, List.nil_append, List.cons_append, List.append_nil, List.drop_succ_cons, List.drop_zero, List.drop_nil, List.getElem?_cons_succ, List.getElem?_cons_zero, Nat.reduceAdd, Nat.reduceLeDiff, Nat.reduceEqDiff, Nat.zero_add, Nat.add_zero, Nat.le_refl, Nat.zero_le, Nat.succ_ne_self, Nat.mul_one, Int.toNat_natCast, Option.some.injEq, Option.isNone_some, Option.isNone_none, V.int.injEq, V.str.injEq, V.bool.injEq, V.ptr.injEq, V.slc.injEq, V.map.injEq, V.agg.injEq, V.tup.injEq, List.cons.injEq, Prod.mk.injEq, onS, true_and, and_true, and_assoc, exists_and_left, exists_eq_left', forall_eq, heq_eq_eq, reduceCtorEq, Bool.not_true, Bool.not_false, eq_self, not_false_eq_true, Nat.left_eq_add, Nat.add_eq_left, Nat.add_left_cancel_iff, Nat.add_right_cancel_iff, Nat.reduceEqDiff, Nat.one_ne_zero, Hp.get_set_self, Hp.get_set_ne, Hp.get_alloc_self, Hp.get_alloc_ne, Hp.get_alloc_at, Hp.get_set_at, Hp.set_next, Hp.alloc_next, Option.some_ne_none, V.tup.injEq, Option.isSome_some, Option.isSome_none, exists_eq_left, exists_eq, Nat.mul_zero, g1], ?_⟩
  cases c3 : ltI c.waits 0 with
  | true => exact .inl ⟨rfl, q1⟩
  | false =>
  refine ⟨c.waits, by simp (disch := (first | omega | (simp only [Hp.alloc_next, Hp.set_next] <;> omega) | (simp (disch := (first | omega | (simp only [Hp.alloc_next, Hp.set_next] <;> omega) | fail)) only [Hp.get_set_self, Hp.get_set_ne, Hp.get_alloc_self, Hp.get_alloc_ne, Hp.get_alloc_at, Hp.get_set_at, Hp.set_next, Hp.alloc_next, g1]; done) | fail)) only [Hp.st, Hp.ld, Hp.lda, splice, ble_eq', if_true, if_false, ite_true, ite_false, cond_true, cond_false, decide_true, decide_false, List.length_cons, List.length_nil, List.take_zero, List.take_succ_cons, List.nil_append, List.cons_append, List.append_nil, List.drop_succ_cons, List.drop_zero, List.drop_nil, List.getElem?_cons_succ, List.getElem?_cons_zero, Nat.reduceAdd, Nat.reduceLeDiff, Nat.reduceEqDiff, Nat.zero_add, Nat.add_zero, Nat.le_refl, Nat.zero_le, Nat.succ_ne_self, Nat.mul_one, Int.toNat_natCast, Option.some.injEq, Option.isNone_some, Option.isNone_none, V.int.injEq, V.str.injEq, V.bool.injEq, V.ptr.injEq, V.slc.injEq, V.map.injEq, V.agg.injEq, V.tup.injEq, List.cons.injEq, Prod.mk.injEq, onS, true_and, and_true, and_assoc, exists_and_left, exists_eq_left', forall_eq, heq_eq_eq, reduceCtorEq, Bool.not_true, Bool.not_false, eq_self, not_false_eq_true, Nat.left_eq_add, Nat.add_eq_left, Nat.add_left_cancel_iff, Nat.add_right_cancel_iff, Nat.reduceEqDiff, Nat.one_ne_zero, Hp.get_set_self, Hp.get_set_ne, Hp.get_alloc_self, Hp.get_alloc_ne, Hp.get_alloc_at, Hp.get_set_at, Hp.set_next, Hp.alloc_next, Option.some_ne_none, V.tup.injEq, Option.isSome_some, Option.isSome_none, exists_eq_left, exists_eq, Nat.mul_zero, g1], ?_⟩
  cases c4 : ltI 1024 c.waits with
  | true => exact .inl ⟨rfl, q1⟩
  | false =>
  refine ⟨c.each, by simp (disch := (first | omega | (simp only [Hp.alloc_next, Hp.set_next] <;> omega) | (simp (disch := (first | omega | (simp only [Hp.alloc_next, Hp.set_next] <;> omega) | fail)) only [Hp.get_set_self, Hp.get_set_ne, Hp.get_alloc_self, Hp.get_alloc_ne, Hp.get_alloc_at, Hp.get_set_at, Hp.set_next, Hp.alloc_next, g1]; done) | fail)) only [Hp.st, Hp.ld, Hp.lda, splice, ble_eq', if_true, if_false, ite_true, ite_false, cond_true, cond_false, decide_true, decide_false, List.length_cons, List.length_nil, List.take_zero, List.take_succ_cons, List.nil_append, List.cons_append, List.append_nil, List.drop_succ_cons, List.drop_zero, List.drop_nil, List.getElem?_cons_succ, List.getElem?_cons_zero, Nat.reduceAdd, Nat.reduceLeDiff, Nat.reduceEqDiff, Nat.zero_add, Nat.add_zero, Nat.le_refl, Nat.zero_le, Nat.succ_ne_self, Nat.mul_one, Int.toNat_natCast, Option.some.injEq, Option.isNone_some, Option.isNone_none, V.int.injEq, V.str.injEq, V.bool.injEq, V.ptr.injEq, V.slc.injEq, V.map.injEq, V.agg.injEq, V.tup.injEq, List.cons.injEq, Prod.mk.injEq, onS, true_and, and_true, and_assoc, exists_and_left, exists_eq_left', forall_eq, heq_eq_eq, reduceCtorEq, Bool.not_true, Bool.not_false, eq_self, not_false_eq_true, Nat.left_eq_add, Nat.add_eq_left, Nat.add_left_cancel_iff, Nat.add_right_cancel_iff, Nat.reduceEqDiff, Nat.one_ne_zero, Hp.get_set_self, Hp.get_set_ne, Hp.get_alloc_self, Hp.get_alloc_ne, Hp.get_alloc_at, Hp.get_set_at, Hp.set_next, Hp.alloc_next, Option.some_ne_none, V.tup.injEq, Option.isSome_some, Option.isSome_none, exists_eq_left, exists_eq, Nat.mul_zero, g1], ?_⟩
  cases c5 : ltI c.each 0 with
  | true => exact .inl ⟨rfl, q1⟩
  | false =>
  refine ⟨c.known, by simp (disch := (first | omega | (simp only [Hp.alloc_next, Hp.set_next] <;> omega) | (simp (disch := (first | omega | (simp only [Hp.alloc_next, Hp.set_next] <;> omega) | fail)) only [Hp.get_set_self, Hp.get_set_ne, Hp.get_alloc_self, Hp.get_alloc_ne, Hp.get_alloc_at, Hp.get_set_at, Hp.set_next, Hp.alloc_next, g1]; done) | fail)) only [Hp.st, Hp.ld, Hp.lda, splice, ble_eq', if_true, if_false, ite_true, ite_false, cond_true, cond_false, decide_true, decide_false, List.length_cons, List.length_nil, List.take_zero, List.take_succ_cons, List.nil_append, List.cons_append, List.append_nil, List.drop_succ_cons, List.drop_zero, List.drop_nil, List.getElem?_cons_succ, List.getElem?_cons_zero, Nat.reduceAdd, Nat.reduceLeDiff, Nat.reduceEqDiff, Nat.zero_add, Nat.add_zero, Nat.le_refl, Nat.zero_le, Nat.succ_ne_self, Nat.mul_one, Int.toNat_natCast, Option.some.injEq, Option.isNone_some, Option.isNone_none, V.int.injEq, V.str.injEq, V.bool.injEq, V.ptr.injEq, V.slc.injEq, V.map.injEq, V.agg.injEq, V.tup.injEq, List.cons.injEq, Prod.mk.injEq, onS, true_and, and_true, and_assoc, exists_and_left, exists_eq_left', forall_eq, heq_eq_eq, reduceCtorEq, Bool.not_true, Bool.not_false, eq_self, not_false_eq_true, Nat.left_eq_add, Nat.add_eq_left, Nat.add_left_cancel_iff, Nat.add_right_cancel_iff, Nat.reduceEqDiff, Nat.one_ne_zero, Hp.get_set_self, Hp.get_set_ne, Hp.get_alloc_self, Hp.get_alloc_ne, Hp.get_alloc_at, Hp.get_set_at, Hp.set_next, Hp.alloc_next, Option.some_ne_none, V.tup.injEq, Option.isSome_some, Option.isSome_none, exists_eq_left, exists_eq, Nat.mul_zero, g1], ?_⟩
  cases c6 : ltI c.known 1 with
  | true => exact .inl ⟨rfl, q1⟩
  | false =>
  refine ⟨c.known, by simp (disch := (first | omega | (simp only [Hp.alloc_next, Hp.set_next] <;> omega) | (simp (disch := (first | omega | (simp only [Hp.alloc_next, Hp.set_next] <;> omega) | fail)) only [Hp.get_set_self, Hp.get_set_ne, Hp.get_alloc_self, Hp.get_alloc_ne, Hp.get_alloc_at, Hp.get_set_at, Hp.set_next, Hp.alloc_next, g1]; done) | fail)) only [Hp.st, Hp.ld, Hp.lda, splice, ble_eq', if_true, if_false, ite_true, ite_false, cond_true, cond_false, decide_true, decide_false, List.length_cons, List.length_nil, List.take_zero, List.take_succ_cons, List.nil_append, List.cons_append, List.append_nil, List.drop_succ_cons, List.drop_zero, List.drop_nil, List.getElem?_cons_succ, List.getElem?_cons_zero, Nat.reduceAdd, Nat.reduceLeDiff, Nat.reduceEqDiff, Nat.zero_add, Nat.add_zero, Nat.le_refl, Nat.zero_le, Nat.succ_ne_self, Nat.mul_one, Int.toNat_natCast, Option.some.injEq, Option.isNone_some, Option.isNone_none, V.int.injEq, V.str.injEq, V.bool.injEq, V.ptr.injEq, V.slc.injEq, V.map.injEq, V.agg.injEq, V.tup.injEq, List.cons.injEq, Prod.mk.injEq, onS, true_and, and_true, and_assoc, exists_and_left, exists_eq_left', forall_eq, heq_eq_eq, reduceCtorEq, Bool.not_true, Bool.not_false, eq_self, not_false_eq_true, Nat.left_eq_add, Nat.add_eq_left, Nat.add_left_cancel_iff, Nat.add_right_cancel_iff, Nat.reduceEqDiff, Nat.one_ne_zero, Hp.get_set_self, Hp.get_set_ne, Hp.get_alloc_self, Hp.get_alloc_ne, Hp.get_alloc_at, Hp.get_set_at, Hp.set_next, Hp.alloc_next, Option.some_ne_none, V.tup.injEq, Option.isSome_some, Option.isSome_none, exists_eq_left, exists_eq, Nat.mul_zero, g1], ?_⟩
  cases c7 : ltI 1099511627776 c.known with
  | true => exact .inl ⟨rfl, q1⟩
  | false =>
  refine ⟨c.asks, by simp (disch := (first | omega | (simp only [Hp.alloc_next, Hp.set_next] <;> omega) | (simp (disch := (first | omega | (simp only [Hp.alloc_next, Hp.set_next] <;> omega) | fail)) only [Hp.get_set_self, Hp.get_set_ne, Hp.get_alloc_self, Hp.get_alloc_ne, Hp.get_alloc_at, Hp.get_set_at, Hp.set_next, Hp.alloc_next, g1]; done) | fail)) only [Hp.st, Hp.ld, Hp.lda, splice, ble_eq', if_true, if_false, ite_true, ite_false, cond_true, cond_false, decide_true, decide_false, List.length_cons, List.length_nil, List.take_zero, List.take_succ_cons, List.nil_append, List.cons_append, List.append_nil, List.drop_succ_cons, List.drop_zero, List.drop_nil, List.getElem?_cons_succ, List.getElem?_cons_zero, Nat.reduceAdd, Nat.reduceLeDiff, Nat.reduceEqDiff, Nat.zero_add, Nat.add_zero, Nat.le_refl, Nat.zero_le, Nat.succ_ne_self, Nat.mul_one, Int.toNat_natCast, Option.some.injEq, Option.isNone_some, Option.isNone_none, V.int.injEq, V.str.injEq, V.bool.injEq, V.ptr.injEq, V.slc.injEq, V.map.injEq, V.agg.injEq, V.tup.injEq, List.cons.injEq, Prod.mk.injEq, onS, true_and, and_true, and_assoc, exists_and_left, exists_eq_left', forall_eq, heq_eq_eq, reduceCtorEq, Bool.not_true, Bool.not_false, eq_self, not_false_eq_true, Nat.left_eq_add, Nat.add_eq_left, Nat.add_left_cancel_iff, Nat.add_right_cancel_iff, Nat.reduceEqDiff, Nat.one_ne_zero, Hp.get_set_self, Hp.get_set_ne, Hp.get_alloc_self, Hp.get_alloc_ne, Hp.get_alloc_at, Hp.get_set_at, Hp.set_next, Hp.alloc_next, Option.some_ne_none, V.tup.injEq, Option.isSome_some, Option.isSome_none, exists_eq_left, exists_eq, Nat.mul_zero, g1], ?_⟩
  cases c8 : ltI c.asks 1 with
  | true => exact .inl ⟨rfl, q1⟩
  | false =>
  refine ⟨c.asks, by simp (disch := (first | omega | (simp only [Hp.alloc_next, Hp.set_next] <;> omega) | (simp (disch := (first | omega | (simp only [Hp.alloc_next, Hp.set_next] <;> omega) | fail)) only [Hp.get_set_self, Hp.get_set_ne, Hp.get_alloc_self, Hp.get_alloc_ne, Hp.get_alloc_at, Hp.get_set_at, Hp.set_next, Hp.alloc_next, g1]; done) | fail)) only [Hp.st, Hp.ld, Hp.lda, splice, ble_eq', if_true, if_false, ite_true, ite_false, cond_true, cond_false, decide_true, decide_false, List.length_cons, List.length_nil, List.take_zero, List.take_succ_cons, List.nil_append, List.cons_append, List.append_nil, List.drop_succ_cons, List.drop_zero, List.drop_nil, List.getElem?_cons_succ, List.getElem?_cons_zero, Nat.reduceAdd, Nat.reduceLeDiff, Nat.reduceEqDiff, Nat.zero_add, Nat.add_zero, Nat.le_refl, Nat.zero_le, Nat.succ_ne_self, Nat.mul_one, Int.toNat_natCast, Option.some.injEq, Option.isNone_some, Option.isNone_none, V.int.injEq, V.str.injEq, V.bool.injEq, V.ptr.injEq, V.slc.injEq, V.map.injEq, V.agg.injEq, V.tup.injEq, List.cons.injEq, Prod.mk.injEq, onS, true_and, and_true, and_assoc, exists_and_left, exists_eq_left', forall_eq, heq_eq_eq, reduceCtorEq, Bool.not_true, Bool.not_false, eq_self, not_false_eq_true, Nat.left_eq_add, Nat.add_eq_left, Nat.add_left_cancel_iff, Nat.add_right_cancel_iff, Nat.reduceEqDiff, Nat.one_ne_zero, Hp.get_set_self, Hp.get_set_ne, Hp.get_alloc_self, Hp.get_alloc_ne, Hp.get_alloc_at, Hp.get_set_at, Hp.set_next, Hp.alloc_next, Option.some_ne_none, V.tup.injEq, Option.isSome_some, Option.isSome_none, exists_eq_left, exists_eq, Nat.mul_zero, g1], ?_⟩
  cases c9 : ltI 1048576 c.asks with
  | true => exact .inl ⟨rfl, q1⟩
  | false =>
  refine ⟨c.pause, by simp (disch := (first | omega | (simp only [Hp.alloc_next, Hp.set_next] <;> omega) | (simp (disch := (first | omega | (simp only [Hp.alloc_next, Hp.set_next] <;> omega) | fail)) only [Hp.get_set_self, Hp.get_set_ne, Hp.get_alloc_self, Hp.get_alloc_ne, Hp.get_alloc_at, Hp.get_set_at, Hp.set_next, Hp.alloc_next, g1]; done) | fail)) only [Hp.st, Hp.ld, Hp.lda, splice, ble_eq', if_true, if_false, ite_true, ite_false, cond_true, cond_false, decide_true, decide_false, List.length_cons, List.length_nil, List.take_zero, List.take_succ_cons, List.nil_append, List.cons_append, List.append_nil, List.drop_succ_cons, List.drop_zero, List.drop_nil, List.getElem?_cons_succ, List.getElem?_cons_zero, Nat.reduceAdd, Nat.reduceLeDiff, Nat.reduceEqDiff, Nat.zero_add, Nat.add_zero, Nat.le_refl, Nat.zero_le, Nat.succ_ne_self, Nat.mul_one, Int.toNat_natCast, Option.some.injEq, Option.isNone_some, Option.isNone_none, V.int.injEq, V.str.injEq, V.bool.injEq, V.ptr.injEq, V.slc.injEq, V.map.injEq, V.agg.injEq, V.tup.injEq, List.cons.injEq, Prod.mk.injEq, onS, true_and, and_true, and_assoc, exists_and_left, exists_eq_left', forall_eq, heq_eq_eq, reduceCtorEq, Bool.not_true, Bool.not_false, eq_self, not_false_eq_true, Nat.left_eq_add, Nat.add_eq_left, Nat.add_left_cancel_iff, Nat.add_right_cancel_iff, Nat.reduceEqDiff, Nat.one_ne_zero, Hp.get_set_self, Hp.get_set_ne, Hp.get_alloc_self, Hp.get_alloc_ne, Hp.get_alloc_at, Hp.get_set_at, Hp.set_next, Hp.alloc_next, Option.some_ne_none, V.tup.injEq, Option.isSome_some, Option.isSome_none, exists_eq_left, exists_eq, Nat.mul_zero, g1], ?_⟩
  cases c10 : ltI c.pause 1 with
  | true => exact .inl ⟨rfl, q1⟩
  | false =>
  refine ⟨c.pause, by simp (disch := (first | omega | (simp only [Hp.alloc_next, Hp.set_next] <;> omega) | (simp (disch := (first | omega | (simp only [Hp.alloc_next, Hp.set_next] <;> omega) | fail)) only [Hp.get_set_self, Hp.get_set_ne, Hp.get_alloc_self, Hp.get_alloc_ne, Hp.get_alloc_at, Hp.get_set_at, Hp.set_next, Hp.alloc_next, g1]; done) | fail)) only [Hp.st, Hp.ld, Hp.lda, splice, ble_eq', if_true, if_false, ite_true, ite_false, cond_true, cond_false, decide_true, decide_false, List.length_cons, List.length_nil, List.take_zero, List.take_succ_cons, List.nil_append, List.cons_append, List.append_nil, List.drop_succ_cons, List.drop_zero, List.drop_nil, List.getElem?_cons_succ, List.getElem?_cons_zero, Nat.reduceAdd, Nat.reduceLeDiff, Nat.reduceEqDiff, Nat.zero_add, Nat.add_zero, Nat.le_refl, Nat.zero_le, Nat.succ_ne_self, Nat.mul_one, Int.toNat_natCast, Option.some.injEq, Option.isNone_some, Option.isNone_none, V.int.injEq, V.str.injEq, V.bool.injEq, V.ptr.injEq, V.slc.injEq, V.map.injEq, V.agg.injEq, V.tup.injEq, List.cons.injEq, Prod.mk.injEq, onS, true_and, and_true, and_assoc, exists_and_left, exists_eq_left', forall_eq, heq_eq_eq, reduceCtorEq, Bool.not_true, Bool.not_false, eq_self, not_false_eq_true, Nat.left_eq_add, Nat.add_eq_left, Nat.add_left_cancel_iff, Nat.add_right_cancel_iff, Nat.reduceEqDiff, Nat.one_ne_zero, Hp.get_set_self, Hp.get_set_ne, Hp.get_alloc_self, Hp.get_alloc_ne, Hp.get_alloc_at, Hp.get_set_at, Hp.set_next, Hp.alloc_next, Option.some_ne_none, V.tup.injEq, Option.isSome_some, Option.isSome_none, exists_eq_left, exists_eq, Nat.mul_zero, g1], ?_⟩
  cases c11 : ltI 1099511627776 c.pause with
  | true => exact .inl ⟨rfl, q1⟩
  | false =>
  rw [ltI_eq, decide_eq_false_iff_not] at c1 c2 c3 c4 c5 c6 c7 c8 c9 c10 c11
  refine ⟨c.most, c.waits, c.each, c.known, c.asks, c.pause, by simp (disch := (first | omega | (simp only [Hp.alloc_next, Hp.set_next] <;> omega) | (simp (disch := (first | omega | (simp only [Hp.alloc_next, Hp.set_next] <;> omega) | fail)) only [Hp.get_set_self, Hp.get_set_ne, Hp.get_alloc_self, Hp.get_alloc_ne, Hp.get_alloc_at, Hp.get_set_at, Hp.set_next, Hp.alloc_next, g1]; done) | fail)) only [Hp.st, Hp.ld, Hp.lda, splice, ble_eq', if_true, if_false, ite_true, ite_false, cond_true, cond_false, decide_true, decide_false, List.length_cons, List.length_nil, List.take_zero, List.take_succ_cons, List.nil_append, List.cons_append, List.append_nil, List.drop_succ_cons, List.drop_zero, List.drop_nil, List.getElem?_cons_succ, List.getElem?_cons_zero, Nat.reduceAdd, Nat.reduceLeDiff, Nat.reduceEqDiff, Nat.zero_add, Nat.add_zero, Nat.le_refl, Nat.zero_le, Nat.succ_ne_self, Nat.mul_one, Int.toNat_natCast, Option.some.injEq, Option.isNone_some, Option.isNone_none, V.int.injEq, V.str.injEq, V.bool.injEq, V.ptr.injEq, V.slc.injEq, V.map.injEq, V.agg.injEq, V.tup.injEq, List.cons.injEq, Prod.mk.injEq, onS, true_and, and_true, and_assoc, exists_and_left, exists_eq_left', forall_eq, heq_eq_eq, reduceCtorEq, Bool.not_true, Bool.not_false, eq_self, not_false_eq_true, Nat.left_eq_add, Nat.add_eq_left, Nat.add_left_cancel_iff, Nat.add_right_cancel_iff, Nat.reduceEqDiff, Nat.one_ne_zero, Hp.get_set_self, Hp.get_set_ne, Hp.get_alloc_self, Hp.get_alloc_ne, Hp.get_alloc_at, Hp.get_set_at, Hp.set_next, Hp.alloc_next, Option.some_ne_none, V.tup.injEq, Option.isSome_some, Option.isSome_none, exists_eq_left, exists_eq, Nat.mul_zero, g1], ?_⟩
  rintro h2 rfl h3 rfl
  have q2 := Quiet.alloc q1.wf (.map [] 0)
  have g2 : (h1.alloc (.map [] 0)).get h1.next = some (.map [] 0) := Hp.get_alloc_self
  have n2 : (h1.alloc (.map [] 0)).next = h1.next + 1 := Hp.alloc_next _ _
  generalize h1.alloc (.map [] 0) = h2 at *
  have q3 := Quiet.alloc q2.wf (.row (nRow ⟨c, 0, 0, []⟩ h1.next) 1 false)
  refine .inr ⟨h2.next, foot h2.next h1.next [] (fun _ => []), rfl, ⟨⟨by omega, by omega⟩, ⟨by omega, by omega⟩, by omega, ⟨by omega, by omega⟩, ⟨by omega, by omega⟩, ⟨by omega, by omega⟩⟩, ⟨h1.next, _, [], fun _ => [], ⟨Hp.get_alloc_self, (by rw [Hp.get_alloc_ne (by omega)]; exact g2), MO.nil _ _, rfl, (by simp), fun ip q hq => (by cases hq), fun ip ip' _ hh => absurd rfl hh, (by omega), fun ip hh => absurd rfl hh⟩, rfl⟩, (q1.trans q2).trans q3, fun j hj => ?_⟩
  rcases mem_foot.1 hj with rfl | rfl | ⟨ip, hh, _⟩
  · omega
  · omega
  · exact absurd rfl hh
end
end Go.Vex.Nr
