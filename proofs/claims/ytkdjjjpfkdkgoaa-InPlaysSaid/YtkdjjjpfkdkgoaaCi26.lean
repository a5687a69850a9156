/-
  Exact contracts of bytes that are received (layer 26): the far bytes as a function, what becomes of them by each byte.
-/
import Derived.Test.YtkdjjjpfkdkgoaaVexGG
import Derived.Test.YtkdjjjpfkdkgoaaTab26
import Derived.Test.YtkdjjjpfkdkgoaaXa26
import Derived.Test.YtkdjjjpfkdkgoaaCa26
import Derived.Test.YtkdjjjpfkdkgoaaXg26
import Derived.Test.YtkdjjjpfkdkgoaaCg26
set_option linter.unusedVariables false
set_option linter.unusedSimpArgs false
namespace Go.Vex.In
open Go.Proofs

def up (F : Nat → Int) (p : Nat) (c : Int) : Nat → Int := fun k => if k = p then c else F k

theorem up_self (F : Nat → Int) (p : Nat) (c : Int) : up F p c p = c := by simp [up]
theorem up_ne {F : Nat → Int} {p k : Nat} {c : Int} (h : k ≠ p) : up F p c k = F k := by simp [up, h]

/-- rows behind a gap -/
def rn (F : Nat → Int) : Nat → Nat
  | 0 => 0
  | n + 1 => rn F n + if 0 < n ∧ 0 ≤ F n ∧ F (n - 1) < 0 then 1 else 0

theorem rn_le (F : Nat → Int) : ∀ n, rn F n ≤ n
  | 0 => Nat.le_refl _
  | n + 1 => by have := rn_le F n; unfold rn; split <;> omega

theorem rn_up {F : Nat → Int} {p : Nat} {c : Int} (h0 : F p < 0) (hc : 0 ≤ c) : ∀ m, rn (up F p c) m + (if p + 2 ≤ m ∧ 0 ≤ F (p + 1) then 1 else 0) = rn F m + (if p + 1 ≤ m ∧ 0 < p ∧ F (p - 1) < 0 then 1 else 0)
  | 0 => by simp [rn]
  | m + 1 => by
    have ih := rn_up h0 hc m
    have e1 : rn (up F p c) (m + 1) = rn (up F p c) m + if 0 < m ∧ 0 ≤ up F p c m ∧ up F p c (m - 1) < 0 then 1 else 0 := rfl
    have e2 : rn F (m + 1) = rn F m + if 0 < m ∧ 0 ≤ F m ∧ F (m - 1) < 0 then 1 else 0 := rfl
    rw [e1, e2]
    by_cases h1 : m = p
    · subst h1
      rw [up_self]
      by_cases hm : 0 < m
      · rw [up_ne (F := F) (p := m) (by omega : m - 1 ≠ m)]
        split at ih <;> split at ih <;> split <;> split <;> split <;> split <;> omega
      · split at ih <;> split at ih <;> split <;> split <;> split <;> split <;> omega
    · rw [up_ne h1]
      by_cases h2 : m = p + 1
      · subst h2
        rw [Nat.add_sub_cancel, up_self]
        split at ih <;> split at ih <;> split <;> split <;> split <;> split <;> omega
      · by_cases hm : 0 < m
        · rw [up_ne (F := F) (p := p) (by omega : m - 1 ≠ p)]
          split at ih <;> split at ih <;> split <;> split <;> split <;> omega
        · split at ih <;> split at ih <;> split <;> split <;> split <;> split <;> omega

theorem rn_out {F : Nat → Int} {n : Nat} (h : ∀ k, n ≤ k → F k < 0) : ∀ j, rn F (n + j) = rn F n
  | 0 => rfl
  | j + 1 => by
    have e : rn F (n + (j + 1)) = rn F (n + j) + if 0 < n + j ∧ 0 ≤ F (n + j) ∧ F (n + j - 1) < 0 then 1 else 0 := rfl
    have := h (n + j) (by omega)
    rw [e, rn_out h j, if_neg (by omega)]; rfl

def sh (F : Nat → Int) (q : Nat) : Nat → Int := fun k => F (k + q)

theorem rn_low {F : Nat → Int} : ∀ q, (∀ k, k < q → 0 ≤ F k) → rn F q = 0
  | 0, _ => rfl
  | q + 1, h => by
    have e : rn F (q + 1) = rn F q + if 0 < q ∧ 0 ≤ F q ∧ F (q - 1) < 0 then 1 else 0 := rfl
    have := h (q - 1) (by omega)
    rw [e, rn_low q (fun k hk => h k (by omega)), if_neg (by omega)]

theorem rn_sh {F : Nat → Int} {q : Nat} (h : ∀ k, k < q → 0 ≤ F k) (hq : F q < 0) : ∀ m, rn (sh F q) m = rn F (q + m)
  | 0 => (rn_low q h).symm
  | m + 1 => by
    have e1 : rn (sh F q) (m + 1) = rn (sh F q) m + if 0 < m ∧ 0 ≤ F (m + q) ∧ F (m - 1 + q) < 0 then 1 else 0 := rfl
    have e2 : rn F (q + (m + 1)) = rn F (q + m) + if 0 < q + m ∧ 0 ≤ F (q + m) ∧ F (q + m - 1) < 0 then 1 else 0 := rfl
    rw [e1, e2, rn_sh h hq m, Nat.add_comm m q]
    by_cases hm : m = 0
    · subst hm
      rw [if_neg (by omega), if_neg (by rw [Nat.add_zero]; omega)]
    · have e3 : m - 1 + q = q + m - 1 := by omega
      rw [e3]
      split <;> split <;> omega

/-- what may be of far bytes -/
structure FI (n rl : Nat) (F : Nat → Int) (E : Int) : Prop where
  hi : ∀ k, 0 ≤ F k → k + rl < n ∧ F k ≤ 255
  rle : rl ≤ n
  en : 0 ≤ E → E + rl ≤ n ∧ ∀ k : Nat, 0 ≤ F k → (k : Int) < E
  rns : In.rn F n ≤ 64

/-- may a byte be put at p? -/
def okF (n : Nat) (W E : Int) (F : Nat → Int) (p c : Int) : Prop := 0 ≤ p ∧ p < W ∧ ¬(0 ≤ E ∧ E ≤ p) ∧ F p.toNat < 0 ∧ rn (up F p.toNat c) n ≤ 64

instance (n : Nat) (W E : Int) (F : Nat → Int) (p c : Int) : Decidable (okF n W E F p c) := by unfold okF; exact inferInstance

def stp (n : Nat) (W E p c : Int) (s : (Nat → Int) × Nat) : (Nat → Int) × Nat := if okF n W E s.1 p c then (up s.1 p.toNat c, s.2 + 1) else s

def puts (n : Nat) (W E far : Int) (F : Nat → Int) (text : List UInt8) : Nat → (Nat → Int) × Nat
  | 0 => (F, 0)
  | k + 1 => match text[k]? with
    | some c => stp n W E (far + k) c.toNat (puts n W E far F text k)
    | none => puts n W E far F text k

theorem u8_lt (c : UInt8) : (0 : Int) ≤ c.toNat ∧ (c.toNat : Int) ≤ 255 := by have := c.toNat_lt; omega

theorem FI.stp {n rl : Nat} {F : Nat → Int} {E p : Int} {c : UInt8} {k : Nat} (f : FI n rl F E) : FI n rl (stp n (n - rl) E p c.toNat (F, k)).1 E := by
  unfold In.stp
  split
  · rename_i h
    obtain ⟨h1, h2, h3, h4, h5⟩ := h
    have hc := u8_lt c
    dsimp only at h4 h5 ⊢
    refine ⟨fun j hj => ?_, f.rle, fun he => ⟨(f.en he).1, fun j hj => ?_⟩, h5⟩
    · by_cases e : j = p.toNat
      · subst e; rw [up_self]; omega
      · simp only [up_ne e] at hj ⊢; exact f.hi j hj
    · by_cases e : j = p.toNat
      · subst e; omega
      · simp only [up_ne e] at hj; exact (f.en he).2 j hj
  · exact f

theorem FI.puts {n rl : Nat} {F : Nat → Int} {E far : Int} {text : List UInt8} (f : FI n rl F E) : ∀ k, FI n rl (puts n (n - rl) E far F text k).1 E
  | 0 => f
  | k + 1 => by
    unfold In.puts
    split
    · exact (f.puts k).stp
    · exact f.puts k

theorem puts_le {n : Nat} {W E far : Int} {F : Nat → Int} {text : List UInt8} : ∀ k, (puts n W E far F text k).2 ≤ k
  | 0 => Nat.le_refl _
  | k + 1 => by
    have ih := puts_le (n := n) (W := W) (E := E) (far := far) (F := F) (text := text) k
    unfold In.puts
    split
    · unfold In.stp; split
      · simp only; omega
      · omega
    · omega

/-- the program's far bytes, of which q were joined -/
structure PI (b : Int) (R : List UInt8) (n : Nat) (F : Nat → Int) (E : Int) (q : Nat) (s : IS) : Prop where
  nx : s.nx = (b + q) % 4294967296
  rd : s.rd = R ++ (List.range q).map fun k => UInt8.ofNat (F k).toNat
  mo : s.most = n
  get : ∀ k : Nat, q ≤ k → k < 65536 → mget s.A ((b + k) % 4294967296) = if 0 ≤ F k then some (F k) else none
  far : ∀ x ∈ s.A, ∃ k : Nat, q ≤ k ∧ 0 ≤ F k ∧ x = ((b + k) % 4294967296, F k)
  nA : (s.A.map Prod.fst).Nodup
  fin : s.fin = decide (0 ≤ E)
  en : 0 ≤ E → s.en = (b + E) % 4294967296

section
variable {b : Int} {R : List UInt8} {n : Nat} {F : Nat → Int} {E : Int} {q : Nat} {s : IS}

theorem PI.len (i : PI b R n F E q s) : s.rd.length = R.length + q := by rw [i.rd]; simp

theorem PI.push (i : PI b R n F E q s) (hq : F q < 0) (c : UInt8) : PI b R n (up F q c.toNat) E (q + 1) ⟨(s.nx + 1) % 4294967296, s.rd ++ [c], s.A, s.rows, s.most, s.fin, s.en⟩ := by
  refine ⟨?_, ?_, i.mo, fun k hk hk2 => ?_, fun x hx => ?_, i.nA, i.fin, i.en⟩
  · show (s.nx + 1) % 4294967296 = _
    rw [i.nx]; omega
  · show s.rd ++ [c] = _
    rw [i.rd, List.range_succ, List.map_append, List.append_assoc]
    congr 2
    · exact List.map_congr_left fun k hk => by rw [up_ne (by have := List.mem_range.1 hk; omega)]
    · simp [up_self]
  · rw [up_ne (by omega)]; exact i.get k (by omega) hk2
  · obtain ⟨k, h1, h2, h3⟩ := i.far x hx
    have : k ≠ q := by rintro rfl; omega
    exact ⟨k, by omega, by rw [up_ne this]; exact h2, by rw [up_ne this]; exact h3⟩

theorem PI.put (i : PI b R n F E q s) {p : Nat} (hp : q < p) (hp2 : p < 65536) (hF : F p < 0) (hlim : ∀ k, 0 ≤ F k → k < 65536) (c : UInt8) (rows : Int) : PI b R n (up F p c.toNat) E q { s with A := s.A ++ [((b + p) % 4294967296, (c.toNat : Int))], rows := rows } := by
  have hmn : mget s.A ((b + p) % 4294967296) = none := by rw [i.get p (by omega) hp2, if_neg (by omega)]
  refine ⟨i.nx, ?_, i.mo, fun k hk hk2 => ?_, fun x hx => ?_, ?_, i.fin, i.en⟩
  · show s.rd = _
    rw [i.rd]
    congr 1
    exact List.map_congr_left fun k hk => by rw [up_ne (by have := List.mem_range.1 hk; omega)]
  · show mget (s.A ++ _) _ = _
    rw [← mput_none _ _ _ hmn, mget_mput]
    by_cases e : k = p
    · subst e; rw [if_pos rfl, up_self, if_pos (u8_lt c).1]
    · rw [if_neg (fun h => e (mod_inj hk2 hp2 h)), up_ne e]; exact i.get k hk hk2
  · rcases List.mem_append.1 hx with hx | hx
    · obtain ⟨k, h1, h2, h3⟩ := i.far x hx
      have : k ≠ p := by rintro rfl; omega
      exact ⟨k, h1, by rw [up_ne this]; exact h2, by rw [up_ne this]; exact h3⟩
    · rw [List.mem_singleton] at hx; subst hx
      exact ⟨p, by omega, by rw [up_self]; exact (u8_lt c).1, by rw [up_self]⟩
  · show ((s.A ++ [((b + p) % 4294967296, (c.toNat : Int))]).map Prod.fst).Nodup
    rw [List.map_append, List.nodup_append]
    refine ⟨i.nA, by simp, fun x hx y hy => ?_⟩
    simp only [List.map_cons, List.map_nil, List.mem_singleton] at hy
    subst hy
    exact fun e => (mget_mem s.A x).2 hx (e ▸ hmn)

theorem PI.pop (i : PI b R n F E q s) (hq : 0 ≤ F q) (hlim : ∀ k, 0 ≤ F k → k < 65536) (rows : Int) : PI b R n F E (q + 1) ⟨(s.nx + 1) % 4294967296, s.rd ++ [UInt8.ofNat (F q).toNat], mdel s.A s.nx, rows, s.most, s.fin, s.en⟩ := by
  have hq2 := hlim q hq
  refine ⟨?_, ?_, i.mo, fun k hk hk2 => ?_, fun x hx => ?_, i.nA.sublist ((mdel_sub _ _).map _), i.fin, i.en⟩
  · show (s.nx + 1) % 4294967296 = _
    rw [i.nx]; omega
  · show s.rd ++ _ = _
    rw [i.rd, List.range_succ, List.map_append, List.append_assoc]; rfl
  · show mget (mdel s.A s.nx) _ = _
    rw [mget_mdel _ _ _ (fun h => by
      rw [i.nx] at h
      have := mod_inj hk2 hq2 h
      omega)]
    exact i.get k (by omega) hk2
  · obtain ⟨k, h1, h2, h3⟩ := i.far x ((mdel_sub _ _).subset hx)
    refine ⟨k, ?_, h2, h3⟩
    have hne : x.1 ≠ s.nx := fun e => by
      have := (mget_mem (mdel s.A s.nx) x.1).2 (List.mem_map_of_mem hx)
      rw [e, mget_self s.A s.nx i.nA] at this
      exact this rfl
    have : k ≠ q := by rintro rfl; exact hne (by rw [h3, i.nx])
    omega
end

end Go.Vex.In
