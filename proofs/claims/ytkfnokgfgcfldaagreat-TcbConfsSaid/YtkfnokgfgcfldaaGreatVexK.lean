/-
  VEX, part K: append's law; 'xe': all operations that write or make memory, and their law.
-/
import Derived.Test.YtkfnokgfgcfldaaGreatVexJ
set_option linter.unusedSimpArgs false
set_option linter.unusedVariables false
namespace Go.Vex
open Go.RowKit (Below)

section
variable {P : Program} {T : TT} {B : Nat} {ρ : Env} {h : Hp} {w : World}

theorem Sat.drew (s : Sat B ρ h w) : Sat B ρ h w.drew := s.keep (Nat.le_refl _) (fun _ _ => rfl)

/-- one object is given up while its block is written; a part of that block is a new object -/
theorem Sat.regrow (s : Sat B ρ h w) {i : Nat} {o o' : O} {w' : World} (l : Loc) (hi : h.get i = some o) (hr : o.rw = true) (hlb : l.blk = (ρ i).blk) (hs : w.heap.size ≤ w'.heap.size)
    (hb : ∀ k, k ≠ (ρ i).blk → k < w.heap.size → w'.heap[k]? = w.heap[k]?) (ho : OSat (h.next + 1) (Env.put ρ h.next l) B w' l o') : Sat B (Env.put ρ h.next l) ((h.kill i).alloc o') w' := by
  have s1 := s.kill hi hr hs hb
  refine Sat.alloc s1 l (Nat.le_refl _) (fun _ _ _ => rfl) (fun j p hj hp => ?_) ?_ ho
  · rw [Hp.get_kill] at hj
    split at hj
    · cases hj
    · rename_i e
      rw [hlb]
      exact s.sep j i p o hj hi e hp hr
  · rw [hlb]; exact (s.obj i o hi).2.own hr

theorem Sat.appNew (s : Sat B ρ h w) {olds news zs : Array Value} {l1 l2 : List V} (el : TypeId) (esz len cap : Nat) (h1 : VRs h.next ρ l1 olds.toList) (h2 : VRs h.next ρ l2 news.toList) (ho1 : ∀ v ∈ l1, v.one = true) (ho2 : ∀ v ∈ l2, v.one = true)
    (hsz : (olds ++ news ++ zs).size = cap * esz) (hc : len ≤ cap) :
    Sat B (Env.put ρ h.next ⟨w.heap.size, 0, (olds ++ news ++ zs).size, esz⟩) (h.alloc (.row (l1 ++ l2) esz false)) (w.drew.alloc (.cells (olds ++ news ++ zs) el)) ∧
    VR (h.next + 1) (Env.put ρ h.next ⟨w.heap.size, 0, (olds ++ news ++ zs).size, esz⟩) (.slc (some (h.next, 0)) len false) (.slice (some ⟨w.heap.size, 0, none⟩) len cap) := by
  have e1 := h1.length
  have e2 := h2.length
  simp only [Array.length_toList] at e1 e2
  refine ⟨?_, Nat.lt_succ_self _, _, cap, rfl, by rw [Env.put_same], fun _ => rfl, hc, fun e => (by cases e), fun _ => ?_⟩
  · have := s.drew.newRow (olds ++ news ++ zs) el (0, 0) (l1 ++ l2) esz (by simp; omega) (fun j v hj => ?_) (fun v hv => ?_) rfl
    · exact this
    · obtain ⟨x, hx, hv⟩ := (h1.append h2).get hj
      refine ⟨x, ?_, hv⟩
      have hl : j < (olds ++ news).size := by
        have := (List.getElem?_eq_some_iff.1 hx).1
        simp at this ⊢; exact this
      rw [Array.getElem?_append_left hl]
      rw [← Array.getElem?_toList, Array.toList_append]; exact hx
    · rcases List.mem_append.1 hv with hv | hv
      · exact ho1 v hv
      · exact ho2 v hv
  · rw [Env.put_same]
    exact ⟨rfl, by simp only; omega⟩

theorem grown_cap (w : World) (need old : Nat) (e : TypeId) : need ≤ grownCap w need old e := grownCap_ge w need old e

theorem xapp_sound (hT : TTok P T) (s : Sat B ρ h w) {t u ty : TypeId} {x y r : V} {xu yu : Value} {h' : Hp} (hx : VR h.next ρ x xu) (hy : VR h.next ρ y yu) (hr : xapp T h t u x y = some (r, h')) :
    ∃ z w' ρ', (Builtin.append_ #[t, u] ty #[xu, yu]).run P w = .ok z w' ∧ Ext h.next ρ ρ' ∧ h.next ≤ h'.next ∧ Sat B ρ' h' w' ∧ VR h'.next ρ' r z ∧ Below B w w' := by
  unfold xapp at hr
  split at hr
  · rename_i ti ui ht hut
    obtain ⟨_, ud, _, hud, hudd, _⟩ := hT.ok u ui hut
    split at hr
    · cases hr
    · rename_i _ e hd hnint
      have hni : ∀ k, ud ≠ .int k := fun k e => by
        rw [e] at hudd
        exact hnint k hudd.symm
      have hu := hT.slc ht hd
      split at hr
      · rename_i ei hei
        obtain ⟨i0, d0, hi0, _, _, hsz0, hby0, hzero0, _⟩ := hT.ok e ei hei
        split at hr
        · rename_i n l a len full hnews
          obtain ⟨us, hus, hul, huo, hlen, hfirst⟩ := xnews_sound s hy hnews
          have hul' := hus.length
          rw [← hsz0] at hfirst
          cases hn0 : Nat.beq n 0 with
          | true =>
            rw [hn0] at hr
            simp only [cond_true, Option.some.injEq, Prod.mk.injEq] at hr
            obtain ⟨rfl, rfl⟩ := hr
            have hn := Nat.eq_of_beq_eq_true hn0
            subst hn
            have hus0 : us = [] := by
              have : us.length = 0 := by rw [hul]; simp
              simpa using this
            subst hus0
            -- in place, and nothing is written
            have key : ∀ base cap, len ≤ cap → (Builtin.append_ #[t, u] ty #[.slice base len cap, yu]).run P w = .ok (.slice base len cap) w := by
              intro base cap hc
              have := (run_append_pre (P := P) w t u ty e i0 hu hud hni hi0 base len cap yu 0 hlen #[] hfirst).1 (by omega)
              rw [this]
              cases base <;> simp [storeCells]
            cases a with
            | none =>
              obtain ⟨rfl, rfl⟩ := hx
              exact ⟨_, w, ρ, key none 0 (Nat.le_refl _), Ext.refl _ _, Nat.le_refl _, s, ⟨rfl, rfl⟩, Below.refl _ _⟩
            | some a =>
              obtain ⟨hi, aa, cap, rfl, hrest⟩ := hx
              exact ⟨_, w, ρ, key (some aa) cap hrest.2.2.1, Ext.refl _ _, Nat.le_refl _, s, ⟨hi, aa, cap, rfl, hrest⟩, Below.refl _ _⟩
          | false =>
            rw [hn0] at hr
            simp only [cond_false] at hr
            cases hbd : (Nat.ble ((len + n) * ei.bytes) 140737488355328 && (Nat.ble (len + n) 4611686018427387904 && (Nat.ble 1 ei.size && zok ei))) with
            | false => rw [hbd] at hr; cases hr
            | true =>
              rw [hbd] at hr
              simp only [cond_true] at hr
              simp only [Bool.and_eq_true] at hbd
              obtain ⟨hb1, hb2, hb3, hb4⟩ := hbd
              have hb1 := Nat.le_of_ble_eq_true hb1
              have hb2 := Nat.le_of_ble_eq_true hb2
              have hb3 := Nat.le_of_ble_eq_true hb3
              obtain ⟨z, hz, hzl⟩ : ∃ z, ei.zero = some z ∧ (vcells z).length = ei.size := by
                unfold zok at hb4
                cases hz : ei.zero with
                | none => rw [hz] at hb4; cases hb4
                | some z => rw [hz] at hb4; exact ⟨z, rfl, Nat.eq_of_beq_eq_true hb4⟩
              obtain ⟨zx, hzx, hzv⟩ := hzero0 z hz
              have hzsz : 0 < n := by
                rcases Nat.eq_zero_or_pos n with e | e
                · subst e; cases hn0
                · exact e
              -- how many cells a new row has
              have hzc : zx.cells.size = i0.size := by
                have := (V.of_sound h.next ρ zx z hzv).cells.length
                simp only [Array.length_toList] at this
                omega
              split at hr
              · -- nil
                cases hr
                obtain ⟨rfl, rfl⟩ := hx
                have hrun := (run_append_pre (P := P) w t u ty e i0 hu hud hni hi0 none 0 0 yu n hlen us.toArray hfirst).2 (by omega) zx hzx
                  (growslice_fits (by omega) (by rw [hby0]; simpa using hb1)) (by omega) #[] (fun w' _ => by simp [Builtin.firstCells])
                have hcap := grown_cap w (0 + n) 0 e
                have hsz : ((#[] : Array Value) ++ us.toArray ++ Builtin.zeroCells zx.cells (grownCap w (0 + n) 0 e - (0 + n))).size = grownCap w (0 + n) 0 e * ei.size := by
                  simp only [Array.size_append, List.size_toArray, size_zeroCells, hzc, hsz0, hul, List.length_nil, Nat.zero_add]
                  rw [← Nat.add_mul]; congr 1; simp only [Nat.zero_add] at hcap; omega
                obtain ⟨h1, h2⟩ := s.appNew (olds := #[]) (l1 := []) e ei.size (0 + n) (grownCap w (0 + n) 0 e) rfl (by simpa using hus) (fun v hv => by cases hv) huo hsz hcap
                refine ⟨_, _, _, hrun, Env.ext_put _ _ _, Nat.le_succ _, by simpa using h1, ?_, ?_⟩
                · simpa using h2
                · exact (Below.drew' w).trans (Below.alloc' w.drew _ s.base)
              · rename_i i o
                obtain ⟨hi, aa, cap, rfl, hab, hasp, hac, hfull, hoff⟩ := hx
                split at hr
                · rename_i c esz ro hg
                  split at hr
                  · rename_i olds hcut
                    cases hes : Nat.beq esz ei.size with
                    | false => rw [hes] at hr; cases hr
                    | true =>
                      rw [hes] at hr
                      simp only [cond_true] at hr
                      have hesz := Nat.eq_of_beq_eq_true hes
                      have hlz := s.esz hg
                      have haddr : 0 < len * ei.size → aa = ⟨(ρ i).blk, (ρ i).base + o, none⟩ := fun h0 => by
                        have hlp : 0 < len := by
                          rcases Nat.eq_zero_or_pos len with e | e
                          · subst e; simp at h0
                          · exact e
                        obtain ⟨ab, ao, asp⟩ := aa
                        simp only at hab hasp hoff
                        rw [hab, hasp (by omega), (hoff (by omega)).1]
                      obtain ⟨xs, hxl, hxv, hxc⟩ := s.cells hg hcut haddr
                      obtain ⟨hcl, hcd, hcn⟩ := cut_some hcut
                      obtain ⟨_, _, C, el, fr, hC, hCs, hClim, hCc, hCo, hCro, hCrw⟩ := s.obj i _ hg
                      have holdo : ∀ v ∈ olds, v.one = true := fun v hv => by
                        rw [hcd] at hv; exact hCo v (List.mem_of_mem_drop (List.mem_of_mem_take hv))
                      have hfo : ∀ w', w'.heap = w.heap → (Builtin.firstCells i0.size len (.slice (some aa) len cap)).run P w' = .ok xs.toArray w' := fun w' hw' =>
                        run_firstCells_some (P := P) w' i0.size len aa len cap xs (by rw [hxl, hsz0]) (fun j v hj => by
                          have := hxc j v hj
                          simp only [World.cell?, hw'] at this ⊢
                          exact this)
                      have hpre := run_append_pre (P := P) w t u ty e i0 hu hud hni hi0 (some aa) len cap yu n hlen us.toArray hfirst
                      -- the arm that makes a new row
                      have grow : ¬ len + n ≤ cap → ∃ z w' ρ', (Builtin.append_ #[t, u] ty #[.slice (some aa) len cap, yu]).run P w = .ok z w' ∧ Ext h.next ρ ρ' ∧ Sat B ρ' (h.alloc (.row (olds ++ l) ei.size false)) w' ∧
                          VR (h.next + 1) ρ' (.slc (some (h.next, 0)) (len + n) false) z ∧ Below B w w' := by
                        intro hgt
                        have hrun := hpre.2 hgt zx hzx (growslice_fits (by omega) (by rw [hby0]; exact hb1)) (by omega) xs.toArray hfo
                        have hcap := grown_cap w (len + n) cap e
                        have hsz : (xs.toArray ++ us.toArray ++ Builtin.zeroCells zx.cells (grownCap w (len + n) cap e - (len + n))).size = grownCap w (len + n) cap e * ei.size := by
                          simp only [Array.size_append, List.size_toArray, size_zeroCells, hzc, hsz0, hul, hxl]
                          rw [← Nat.add_mul, ← Nat.add_mul]; congr 1; omega
                        obtain ⟨h1, h2⟩ := s.appNew (olds := xs.toArray) (l1 := olds) e ei.size (len + n) (grownCap w (len + n) cap e) (by simpa using hxv) (by simpa using hus) holdo huo hsz hcap
                        exact ⟨_, _, _, hrun, Env.ext_put _ _ _, h1, h2, (Below.drew' w).trans (Below.alloc' w.drew _ s.base)⟩
                      cases hf : full with
                      | true =>
                        rw [hf] at hr
                        simp only [cond_true, Option.some.injEq, Prod.mk.injEq] at hr
                        obtain ⟨rfl, rfl⟩ := hr
                        have hce := hfull hf
                        obtain ⟨z, w', ρ', g1, g2, g3, g4, g5⟩ := grow (by omega)
                        exact ⟨z, w', ρ', g1, g2, Nat.le_succ _, g3, g4, g5⟩
                      | false =>
                        rw [hf] at hr
                        simp only [cond_false] at hr
                        cases hro : (!ro) with
                        | false => rw [hro] at hr; cases hr
                        | true =>
                          rw [hro] at hr
                          simp only [cond_true, Option.some.injEq, Prod.mk.injEq] at hr
                          obtain ⟨rfl, rfl⟩ := hr
                          have hro' : ro = false := by simpa using hro
                          subst hro'
                          obtain ⟨hB, rfl⟩ := hCrw rfl
                          by_cases hle : len + n ≤ cap
                          · -- in place
                            obtain ⟨hao, hlim⟩ := hoff (by omega)
                            have hasp' := hasp (by omega)
                            clear hasp
                            obtain ⟨ab, ao, asp⟩ := aa
                            simp only at hab hasp' hao
                            subst hab hasp' hao
                            rw [hlz, hesz] at hlim
                            have e1 : (len + n) * ei.size ≤ cap * ei.size := Nat.mul_le_mul_right _ hle
                            have e2 : (len + n) * ei.size = len * ei.size + n * ei.size := Nat.add_mul _ _ _
                            obtain ⟨w', C', hst, hsd, hC'⟩ := run_storeCells P (ρ i).blk ((ρ i).base + o + len * ei.size) el (0, 0) us 0 C w hC (by rw [hul]; omega) (hus.ones huo) (fun j _ hj => by simp)
                            refine ⟨.slice (some ⟨(ρ i).blk, (ρ i).base + o, none⟩) (len + n) cap, w', Env.put ρ h.next ⟨(ρ i).blk, (ρ i).base + o, (ρ i).lim - o, ei.size⟩, ?_, Env.ext_put _ _ _, Nat.le_succ _, ?_, ?_, hsd.below hB⟩
                            · rw [hpre.1 hle]
                              simp only [add_mk, hsz0, List.toList_toArray]
                              rw [hst]; rfl
                            · refine s.regrow _ hg rfl rfl (Nat.le_of_eq hsd.hsize.symm) (fun k hk _ => hsd.other k hk) ⟨rfl, C', el, (0, 0), hsd.heap, by rw [hsd.size]; show (ρ i).base + o + ((ρ i).lim - o) ≤ C.size; omega, ?_, ?_, ?_, fun e => (by cases e), fun _ => ⟨hB, rfl⟩⟩
                              · show (olds ++ l).length ≤ (ρ i).lim - o
                                simp only [List.length_append, hcn, ← hul', hul]; omega
                              · -- the cells
                                intro j v hj
                                have hx2 := Env.ext_put ρ h.next ⟨(ρ i).blk, (ρ i).base + o, (ρ i).lim - o, ei.size⟩
                                rw [List.getElem?_append] at hj
                                show ∃ x, C'[(ρ i).base + o + j]? = some x ∧ VR (h.next + 1) (Env.put ρ h.next ⟨(ρ i).blk, (ρ i).base + o, (ρ i).lim - o, ei.size⟩) v x
                                rw [← Array.getElem?_toList, hC']
                                split at hj
                                · rename_i hlt
                                  rw [hcd, List.getElem?_take] at hj
                                  rw [hcn] at hlt
                                  rw [if_pos hlt, List.getElem?_drop] at hj
                                  obtain ⟨x, hx, hv⟩ := hCc _ _ hj
                                  refine ⟨x, ?_, hv.ext (Nat.le_succ _) hx2⟩
                                  have hlC : (ρ i).base + o + j < C.size := by omega
                                  rw [List.append_assoc, List.getElem?_append_left (by simp; omega), List.getElem?_take, if_pos (by omega), Array.getElem?_toList]
                                  rw [Nat.add_assoc]; exact hx
                                · rename_i hge
                                  rw [hcn] at hge hj
                                  obtain ⟨x, hx, hv⟩ := hus.get hj
                                  refine ⟨x, ?_, hv.ext (Nat.le_succ _) hx2⟩
                                  have hjl := (List.getElem?_eq_some_iff.1 hx).1
                                  have hlC : (ρ i).base + o + len * ei.size ≤ C.size := by omega
                                  rw [List.append_assoc, List.getElem?_append_right (by simp; omega), List.getElem?_append_left (by simp; omega)]
                                  rw [← hx]; congr 1; simp; omega
                              · intro v hv
                                rcases List.mem_append.1 hv with hv | hv
                                · exact holdo v hv
                                · exact huo v hv
                            · refine ⟨Nat.lt_succ_self _, _, cap, rfl, by rw [Env.put_same], fun _ => rfl, hle, fun e => (by cases e), fun _ => ?_⟩
                              rw [Env.put_same]
                              exact ⟨rfl, by simp only; omega⟩
                          · obtain ⟨z, w', ρ', g1, g2, g3, g4, g5⟩ := grow hle
                            refine ⟨z, w', ρ', g1, g2, Nat.le_succ _, ?_, g4, g5⟩
                            -- the old object is given up
                            have hk := g3.kill (i := i) (w' := w') (o := .row c esz false) (by rw [Hp.get_alloc, if_neg (Nat.ne_of_lt (s.lt hg))]; exact hg) rfl (Nat.le_refl _) (fun _ _ _ => rfl)
                            refine ⟨fun j p hj => ?_, fun j k p q hj hk' hjk hp hq => ?_, hk.base⟩
                            · have hj' : ((h.alloc (.row (olds ++ l) ei.size false)).kill i).get j = some p := by
                                rw [Hp.get_kill, Hp.get_alloc]
                                rw [Hp.get_alloc, Hp.get_kill, Hp.next_kill] at hj
                                have := s.lt hg
                                split at hj
                                · rename_i e; rw [if_neg (by omega), if_pos e]; exact hj
                                · rename_i e
                                  split at hj
                                  · cases hj
                                  · rename_i e'; rw [if_neg e', if_neg e]; exact hj
                              exact hk.obj j p hj'
                            · have conv : ∀ j p, ((h.kill i).alloc (.row (olds ++ l) ei.size false)).get j = some p → ((h.alloc (.row (olds ++ l) ei.size false)).kill i).get j = some p := fun j p hj => by
                                rw [Hp.get_kill, Hp.get_alloc]
                                rw [Hp.get_alloc, Hp.get_kill, Hp.next_kill] at hj
                                have := s.lt hg
                                split at hj
                                · rename_i e; rw [if_neg (by omega), if_pos e]; exact hj
                                · rename_i e
                                  split at hj
                                  · cases hj
                                  · rename_i e'; rw [if_neg e', if_neg e]; exact hj
                              exact hk.sep j k p q (conv j p hj) (conv k q hk') hjk hp hq
                  · cases hr
                · cases hr
        · cases hr
      · cases hr
    · cases hr
  · cases hr

end
end Go.Vex
