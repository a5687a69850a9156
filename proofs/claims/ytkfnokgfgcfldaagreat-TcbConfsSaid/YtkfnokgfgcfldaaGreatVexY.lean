/-
  VEX, part Y: small laws for contracts: the heap's parts, what every heap of a walk keeps, the caller's rows.
-/
import Derived.Test.YtkfnokgfgcfldaaGreatVexX
import Derived.KernelRfl
set_option linter.unusedSimpArgs false
set_option linter.unusedVariables false
namespace Go.Vex
open Go.RowKit (Below)

theorem Hp.ld_of {h : Hp} {i e : Nat} {c : List V} {r : Bool} (hg : h.get i = some (.row c e r)) (o : Nat) : h.ld i o = c[o]? := by simp [Hp.ld, hg]
theorem Hp.lda_of {h : Hp} {i e : Nat} {c : List V} {r : Bool} (hg : h.get i = some (.row c e r)) {o n : Nat} (hl : o + n ≤ c.length) : h.lda i o n = some (.agg ((c.drop o).take n)) := by
  simp [Hp.lda, hg, ble_eq', hl]
theorem Hp.st_of {h : Hp} {i e o : Nat} {c l : List V} (hg : h.get i = some (.row c e false)) (hl : o + l.length ≤ c.length) : h.st i o l = some (h.set i (.row (splice c o l) e false)) := by
  simp [Hp.st, hg, ble_eq', hl]
theorem Hp.get_set_self {h : Hp} {i : Nat} {o : O} : (h.set i o).get i = some o := by simp [Hp.get_set]
theorem Hp.get_set_ne {h : Hp} {i j : Nat} {o : O} (e : j ≠ i) : (h.set i o).get j = h.get j := by simp [Hp.get_set, e]
theorem Hp.get_alloc_self {h : Hp} {o : O} : (h.alloc o).get h.next = some o := by simp [Hp.get_alloc]
theorem Hp.get_alloc_ne {h : Hp} {j : Nat} {o : O} (e : j ≠ h.next) : (h.alloc o).get j = h.get j := by simp [Hp.get_alloc, e]
theorem Hp.get_kill_ne {h : Hp} {i j : Nat} (e : j ≠ i) : (h.kill i).get j = h.get j := by simp [Hp.get_kill, e]

/-- objects have numbers that were given -/
def Hp.wf (h : Hp) : Prop := ∀ q o, h.get q = some o → q < h.next

theorem Hp.wf.lt {h : Hp} (hw : h.wf) {q : Nat} {o : O} (hq : h.get q = some o) : q < h.next := hw q o hq
theorem Hp.wf.ne {h : Hp} (hw : h.wf) {q : Nat} {o : O} (hq : h.get q = some o) : q ≠ h.next := Nat.ne_of_lt (hw q o hq)
theorem Hp.wf.set {h : Hp} (hw : h.wf) {i : Nat} {o : O} (hi : i < h.next) : (h.set i o).wf := fun q p hq => by
  rw [Hp.get_set] at hq
  split at hq
  · rename_i e; rw [e]; exact hi
  · exact hw q p hq
theorem Hp.wf.alloc {h : Hp} (hw : h.wf) {o : O} : (h.alloc o).wf := fun q p hq => by
  rw [Hp.get_alloc] at hq
  split at hq
  · rename_i e; rw [e]; exact Nat.lt_succ_self _
  · exact Nat.lt_succ_of_lt (hw q p hq)
theorem Hp.wf.get_alloc {h : Hp} (hw : h.wf) {o p : O} {q : Nat} (hq : h.get q = some p) : (h.alloc o).get q = some p := by rw [Hp.get_alloc_ne (hw.ne hq)]; exact hq

theorem Sat.wf {B : Nat} {ρ : Env} {h : Hp} {w : World} (s : Sat B ρ h w) : h.wf := fun q o hq => (s.obj q o hq).1

theorem XCalls.ofWf {P : Program} {f : FuncId} {vs : List V} {h : Hp} {K : V → Hp → Prop} (hx : h.wf → XCalls P f vs h K) : XCalls P f vs h K := fun B ρ w args s => hx s.wf B ρ w args s

/-- what holds behind a call, of a heap that is in order -/
theorem XCalls.mono' {P : Program} {f : FuncId} {vs : List V} {h : Hp} {K K' : V → Hp → Prop} (hx : XCalls P f vs h K) (hk : ∀ v h', h.next ≤ h'.next → h'.wf → K v h' → K' v h') : XCalls P f vs h K' :=
  fun B ρ w args hs hv => CallsIn.mono (hx B ρ w args hs hv) fun e w' hp =>
    let ⟨z, he, v, ρ', h', h1, h2, h3, h4, h5, h6⟩ := hp
    ⟨z, he, v, ρ', h', h1, h2, h3, h4, h5, hk _ _ h1 h3.wf h6⟩

/-- what is to hold at the end, out of sight -/
theorem XCalls.cps {P : Program} {f : FuncId} {vs : List V} {h : Hp} {K : V → Hp → Prop} (hx : ∀ K' : V → Hp → Prop, (∀ v h', K v h' → K' v h') → XCalls P f vs h K') : XCalls P f vs h K := hx K fun _ _ h => h

theorem xnews_one {h : Hp} {i sz : Nat} {c : List V} (hg : h.get i = some (.row c sz false)) (hc : c.length = sz) : xnews h sz (.slc (some (i, 0)) 1 true) = some ([c].length, [c].flatten) := by
  subst hc
  simp [xnews, hg, cut, ble_eq', show Nat.beq 1 0 = false from rfl]

/-- what is the caller's is as it was -/
def Hp.keeps (h h' : Hp) : Prop := ∀ q c e, h.get q = some (.row c e true) → h'.get q = some (.row c e true)

theorem RoSlc.ld {h h' : Hp} {a : Option (Nat × Nat)} {n sz : Nat} {rows : List (List V)} (ha : RoSlc h a n rows sz) (hk : h.keeps h') {k : Nat} (hn : k < n) (hz : ∀ r ∈ rows, r.length = sz) :
    ∃ q r, a = some (q, 0) ∧ rows[k]? = some r ∧ (∀ j, j < sz → h'.ld q (0 + k * sz + j) = r[j]?) ∧ h'.lda q (0 + k * sz) sz = some (.agg r) := by
  obtain ⟨q, rfl, hq⟩ := ha.2 (by omega)
  have hl : k < rows.length := by rw [ha.1]; exact hn
  refine ⟨q, rows[k], rfl, List.getElem?_eq_getElem hl, fun j hj => ?_, ?_⟩
  · rw [Hp.ld_of (hk _ _ _ hq), Nat.zero_add, flatten_get sz rows hz _ _ hj, List.getElem?_eq_getElem hl]
    rfl
  · have hr : rows[k].length = sz := hz _ (List.getElem_mem hl)
    have hfl := flatten_len sz rows hz
    have hle : k * sz + sz ≤ rows.length * sz := by
      have := Nat.mul_le_mul_right sz (show k + 1 ≤ rows.length from hl)
      rw [Nat.succ_mul] at this; exact this
    rw [Hp.lda_of (hk _ _ _ hq) (by rw [hfl]; omega)]
    congr 2
    apply List.ext_getElem?
    intro j
    rw [List.getElem?_take, List.getElem?_drop]
    split
    · rename_i hj
      rw [Nat.zero_add, flatten_get sz rows hz _ _ hj, List.getElem?_eq_getElem hl]
      rfl
    · rename_i hj
      rw [List.getElem?_eq_none (by omega)]

theorem flatten_sub {α : Type} (sz : Nat) (rows : List (List α)) (hz : ∀ r ∈ rows, r.length = sz) {k o l : Nat} {r : List α} (hr : rows[k]? = some r) (hl : o + l ≤ sz) :
    (rows.flatten.drop (k * sz + o)).take l = (r.drop o).take l := by
  apply List.ext_getElem?
  intro j
  rw [List.getElem?_take, List.getElem?_take]
  split
  · rename_i hj
    rw [List.getElem?_drop, List.getElem?_drop, Nat.add_assoc, flatten_get sz rows hz k (o + j) (by omega), hr]
    rfl
  · rfl

theorem RoSlc.sub {h h' : Hp} {a : Option (Nat × Nat)} {n sz : Nat} {rows : List (List V)} (ha : RoSlc h a n rows sz) (hk : h.keeps h') {k : Nat} (hn : k < n) (hz : ∀ r ∈ rows, r.length = sz) {r : List V} (hr : rows[k]? = some r)
    {q o l : Nat} (hq : a = some (q, 0)) (hl : o + l ≤ sz) : h'.lda q (0 + k * sz + o) l = some (.agg ((r.drop o).take l)) := by
  obtain ⟨q', e, hg⟩ := ha.2 (by omega)
  rw [hq] at e
  cases e
  have hfl := flatten_len sz rows hz
  have hk' : k < rows.length := by rw [ha.1]; exact hn
  have hle : k * sz + sz ≤ rows.length * sz := by
    have := Nat.mul_le_mul_right sz (show k + 1 ≤ rows.length from hk')
    rw [Nat.succ_mul] at this; exact this
  rw [Hp.lda_of (hk _ _ _ hg) (by rw [hfl]; omega), Nat.zero_add, flatten_sub sz rows hz hr hl]

theorem wrap_of {k : IntKind} {n : Int} (h : k.min ≤ n ∧ n ≤ k.max) : k.wrap n = n := by
  cases k <;> simp [IntKind.min, IntKind.max, IntKind.wrap, IntKind.signed, IntKind.bits] at h ⊢ <;> omega
theorem RoSlc.news {h h' : Hp} {a : Option (Nat × Nat)} {n sz : Nat} {rows : List (List V)} {f : Bool} (ha : RoSlc h a n rows sz) (hk : h.keeps h') (hz : ∀ r ∈ rows, r.length = sz) : xnews h' sz (.slc a n f) = some (rows.length, rows.flatten) := by
  cases hn0 : Nat.beq n 0 with
  | true =>
    have hn := Nat.eq_of_beq_eq_true hn0
    have : rows = [] := List.length_eq_zero_iff.1 (by rw [ha.1]; omega)
    subst this
    cases a with
    | none => rfl
    | some p => simp only [xnews, hn0, cond_true]; rfl
  | false =>
    have hn : 0 < n := Nat.pos_of_ne_zero fun e => by rw [e] at hn0; cases hn0
    obtain ⟨q, rfl, hq⟩ := ha.2 hn
    have hfl := flatten_len sz rows hz
    have hcut : Vex.cut rows.flatten 0 (n * sz) = some rows.flatten := by
      unfold Vex.cut
      rw [show Nat.ble (0 + n * sz) rows.flatten.length = true from by simp only [ble_eq', decide_eq_true_eq, hfl, ha.1]; omega]
      simp only [cond_true, List.drop_zero]
      rw [List.take_of_length_le (by rw [hfl, ha.1]; omega)]
    simp only [xnews, hn0, cond_false, hk _ _ _ hq, Nat.beq_refl, cond_true, hcut, Option.map_some, ha.1]

end Go.Vex
