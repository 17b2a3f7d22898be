import Derived.Test.YtbgidagbogpfkaaDoorR8X
/- The append to a builder's bytes: the type of the block it leaves. -/
namespace Go.AM
open Go.Proofs Go.RowKit
set_option linter.unusedVariables false
set_option linter.unusedSimpArgs false
def AppTy (H : Heap) (x : Value) (k : Nat) (e : TypeId) (ρ' : Rho) (w' : World) : Prop := k ≠ 0 → (x = .slice none 0 0 ∨ ∃ b n C, x = .slice (some ⟨b, 0, none⟩) n (2 * n) ∧ 0 < n ∧ H.blk b = some C ∧ C.ty = some (e, false)) →
  ∃ L', ρ' H.next = some L' ∧ L'.shift = 0 ∧ ∃ cc, w'.heap[L'.blk]? = some (.cells cc e (0, 0))
section
variable {P : Program} {w : World}
theorem app_typed {ρ : Rho} {H H' : Heap} (hr : RelH ρ H w) {esz k : Nat} {x x' v : Value} {ys ys' : List Value} {y' : Value} {t tx ty e : TypeId} {inf : TypeInfo} {zv : Value} {z : List Value}
    (ht : P.underlying t = some (.slice e)) (hz : zeroOf P e = some z) (hi : P.info? e = some inf) (hzl : z.length = esz) (hx : V3 ρ x x') (hys : All2 (V1 ρ) ys ys') (hlen : ys.length = k * esz)
    (hs : ∀ zv, inf.zero = some zv → AppRun P w t tx ty e inf zv y' k ys') (h : appV H esz inf.bytes k x ys = some (v, H')) :
    ∃ v' w' ρ', (Builtin.append_ #[t, tx] ty #[x', y']).run P w = .ok v' w' ∧ V3 ρ' v v' ∧ Adv H.next ρ H w ρ' H' w' ∧ AppTy H x k e ρ' w' := by
  obtain ⟨inf', zv, q1, q2, q3, q4, q5, q6⟩ := zero_inv hz
  rw [hi] at q1; cases q1
  have hsz : inf.size = esz := by omega
  subst hsz
  have ar := hs zv q2
  unfold appV at h
  split at h
  · -- nothing is appended
    rename_i hk0
    subst hk0
    split at h
    · rename_i a n c
      cases h
      have hys0 : ys' = [] := by have := hys.length; simp at hlen; rw [hlen] at this; simpa using this.symm
      subst hys0
      cases a with
      | none =>
        obtain ⟨rfl, rfl, rfl⟩ := hx.nil_inv
        exact ⟨_, w, ρ, ar.room none 0 0 w (by omega) rfl, hx, Adv.refl hr, fun h => absurd rfl h⟩
      | some ad =>
        have hx0 := hx
        obtain ⟨L, o', c', g1, g2, ⟨s', rfl, _⟩, g3, g4, _⟩ := hx
        exact ⟨_, w, ρ, ar.room _ n c' w (by omega) rfl, hx0, Adv.refl hr, fun h => absurd rfl h⟩
    · cases h
  rename_i hk0
  split at h
  · -- onto nil
    split at h
    case isFalse => cases h
    rename_i hcond
    cases h
    obtain ⟨c1, c2, c3⟩ := hcond
    obtain ⟨_, _, rfl⟩ := hx.nil_inv
    have hn := nextcap_le k 0 (by omega)
    have hrun := ar.grow none 0 0 [] (by rw [run_firstCells_none]) (by omega) (by simp; omega) (by
      simp only [Nat.zero_add]
      calc Builtin.nextslicecap k 0 * inf.bytes ≤ 2 * k * inf.bytes := Nat.mul_le_mul_right _ hn
        _ ≤ 281474976710656 := by rw [Nat.mul_assoc]; omega)
    simp only [Nat.zero_add, List.nil_append] at hrun
    have hge := grownCap_ge w k 0 e
    have hcl : (ys'.toArray ++ Builtin.zeroCells zv.cells (grownCap w k 0 e - k)).size = grownCap w k 0 e * inf.size := by
      have h1 : (Builtin.zeroCells zv.cells (grownCap w k 0 e - k)).size = (grownCap w k 0 e - k) * inf.size := by
        rw [← Array.length_toList, zero_cells, rep_length, q3, hzl]
      have h2 : ys'.length = k * inf.size := by rw [← hys.length, hlen]
      rw [Array.size_append, List.size_toArray, h1, h2, ← Nat.add_mul]; congr 1; omega
    let L : Loc := ⟨w.heap.size, grownCap w k 0 e * inf.size, inf.size, 0⟩
    refine ⟨_, _, rset ρ H.next L, hrun, ?_, ?_, fun _ _ => ⟨L, by simp [rset], rfl, _, Array.getElem?_push_size⟩⟩
    · refine ⟨L, 0, grownCap w k 0 e, by simp [rset], rfl, ⟨none, rfl, fun _ => rfl⟩, ?_, ?_, ?_, ?_, ?_⟩
      · omega
      · omega
      · intro _; omega
      · intro _; rfl
      · simp [L]
    · refine Adv.alloc hr H.next (hr.none_ge (Nat.le_refl _)) (Nat.le_refl _) (by simp [Heap.add]) (by simp [Heap.add]) (rowBlk inf.size ys) (by simp [Heap.add]) (fun k hk => by simp [Heap.add, hk]) L _ e (0, 0) rfl rfl hcl rfl (.inl (Nat.le_refl _)) ?_ rfl rfl rfl (TyAt.none rfl rfl fun _ _ => ⟨_, e, Array.getElem?_push_size⟩)
      intro o u hu
      obtain ⟨u', r1, r2⟩ := hys.get (show ys[o]? = some u from hu)
      refine ⟨u', ?_, r2⟩
      have : o < ys'.toArray.size := by have := (List.getElem?_eq_some_iff.1 r1).1; simpa using this
      rw [Array.getElem?_append_left (by simpa [L] using this)]
      simpa [L] using r1
  · rename_i b o n c
    obtain ⟨L, o', c', s', g1, rfl, g3, g4, g5, g6, g7, g9⟩ := hx.slice_inv
    split at h
    · -- there is room, for sure
      rename_i hroom
      split at h
      case h_2 => cases h
      rename_i H1 hst
      cases h
      have ho := g6 (by omega)
      obtain rfl : s' = none := g9 (by omega)
      obtain ⟨w1, s1, s2⟩ := storeR_sound hr hst g1 (Nat.le_refl H.next) hys P
      refine ⟨_, w1, ρ, ar.room _ n c' w1 (by omega) ?_, ?_, s2, fun hk hx => (by rcases hx with hx | ⟨b1, n1, C, hx, _⟩ <;> cases hx; omega)⟩
      · simp only [add_at]
        rw [show o' + n * inf.size = o + n * inf.size + L.shift by omega]; exact s1
      · exact ⟨L, o', c', g1, rfl, ⟨none, rfl, fun _ => rfl⟩, by omega, g4, g5, g6, g7⟩
    · rename_i hnr
      split at h
      case isFalse => cases h
      rename_i hcond
      obtain ⟨c1, c2, c3⟩ := hcond
      split at h
      case h_2 => cases h
      rename_i xs hrow
      obtain ⟨xs', x1, x2, x3⟩ := row_sound hr g1 _ _ hrow
      have hxl := row_length _ _ hrow
      have hxy : All2 (V1 ρ) (xs ++ ys) (xs' ++ ys') := x1.append hys
      have hyl : ys'.length = k * inf.size := by rw [← hys.length, hlen]
      -- no room
      have grow : c' < n + k → ∀ (H0 : Heap), RelH ρ H0 w → H0.next = H.next → (∀ j, ρ j = none → True) → ∃ v' w' ρ', (Builtin.append_ #[t, tx] ty #[.slice (some ⟨L.blk, o', s'⟩) n c', y']).run P w = .ok v' w' ∧
          V3 ρ' (.slice (some ⟨H.next, 0, none⟩) (n + k) (2 * (n + k))) v' ∧ Adv H.next ρ H0 w ρ' (H0.add (rowBlk inf.size (xs ++ ys))) w' ∧ ∃ L', ρ' H.next = some L' ∧ L'.shift = 0 ∧ ∃ cc, w'.heap[L'.blk]? = some (.cells cc e (0, 0)) := by
        intro hlt H0 hr0 hnx _
        have hn := nextcap_le (n + k) c' hlt
        have hcells : ∀ w' : World, w'.heap = w.heap → (Builtin.firstCells inf.size n (.slice (some ⟨L.blk, o', s'⟩) n c')).run P w' = .ok xs'.toArray w' := by
          intro w' hw'
          have hcell : ∀ a, w'.cell? a = w.cell? a := fun a => by simp [World.cell?, hw']
          simp only [Builtin.firstCells]
          by_cases h0 : 0 < c / 2
          · rw [g6 h0, g9 (by omega)]; exact run_row x2 fun j v hv => by rw [hcell]; exact x3 j v hv
          · have : n = 0 := by omega
            subst this
            have : xs' = [] := by simpa using x2
            subst this
            simp [loadCells, loadCellsFrom]
        have hrun := ar.grow (some ⟨L.blk, o', s'⟩) n c' xs' (hcells w.drew rfl) hlt (by simp; omega) (by
          calc Builtin.nextslicecap (n + k) c' * inf.bytes ≤ 2 * (n + k) * inf.bytes := Nat.mul_le_mul_right _ hn
            _ ≤ 281474976710656 := by rw [Nat.mul_assoc]; omega)
        have hge := grownCap_ge w (n + k) c' e
        have hcl : ((xs' ++ ys').toArray ++ Builtin.zeroCells zv.cells (grownCap w (n + k) c' e - (n + k))).size = grownCap w (n + k) c' e * inf.size := by
          have h1 : (Builtin.zeroCells zv.cells (grownCap w (n + k) c' e - (n + k))).size = (grownCap w (n + k) c' e - (n + k)) * inf.size := by
            rw [← Array.length_toList, zero_cells, rep_length, q3, hzl]
          rw [Array.size_append, List.size_toArray, h1, List.length_append, x2, hyl, ← Nat.add_mul, ← Nat.add_mul]; congr 1; omega
        let L2 : Loc := ⟨w.heap.size, grownCap w (n + k) c' e * inf.size, inf.size, 0⟩
        refine ⟨_, _, rset ρ H.next L2, hrun, ?_, ?_, L2, by simp [rset], rfl, _, Array.getElem?_push_size⟩
        · refine ⟨L2, 0, grownCap w (n + k) c' e, by simp [rset], rfl, ⟨none, rfl, fun _ => rfl⟩, ?_, ?_, ?_, ?_, ?_⟩
          · omega
          · omega
          · intro _; omega
          · intro _; rfl
          · simp [L2]
        · refine Adv.alloc hr0 H.next (hr0.none_ge (by omega)) (Nat.le_refl _) (by simp [Heap.add]; omega) (by simp [Heap.add]) (rowBlk inf.size (xs ++ ys)) (by simp [Heap.add, hnx]) (fun k hk => by simp [Heap.add, hnx, hk]) L2 _ e (0, 0) rfl rfl hcl rfl (.inl (Nat.le_refl _)) ?_ rfl rfl rfl (TyAt.none rfl rfl fun _ _ => ⟨_, e, Array.getElem?_push_size⟩)
          intro j u hu
          obtain ⟨u', r1, r2⟩ := hxy.get (show (xs ++ ys)[j]? = some u from hu)
          refine ⟨u', ?_, r2⟩
          have : j < (xs' ++ ys').toArray.size := by have := (List.getElem?_eq_some_iff.1 r1).1; simpa using this
          rw [Array.getElem?_append_left (by simpa [L2] using this)]
          simpa [L2] using r1
      split at h
      · rename_i hodd
        cases h
        have hc' := g5 hodd
        obtain ⟨v', w', ρ', r1, r2, r3, r4⟩ := grow (by omega) H hr rfl (fun _ _ => trivial)
        exact ⟨v', w', ρ', r1, r2, r3, fun _ _ => r4⟩
      · rename_i heven
        split at h
        case h_2 => cases h
        rename_i B hB
        split at h
        case isFalse => cases h
        rename_i hBc
        cases h
        obtain ⟨hro, hBe⟩ := hBc
        have kl : Adv H.next ρ H w ρ (H.set b none) w := Adv.kill hr g1
        by_cases hlt : c' < n + k
        · obtain ⟨v', w', ρ', r1, r2, r3, r4⟩ := grow hlt (H.set b none) kl.rel rfl (fun _ _ => trivial)
          exact ⟨v', w', ρ', r1, r2, kl.trans r3, fun _ _ => r4⟩
        · -- in place
          obtain rfl : s' = none := g9 (by omega)
          obtain ⟨cb, tb, fr, b1, b2, b3, b4, b5⟩ := hr.blk b L B g1 hB
          have hLe : L.esz = inf.size := b3.trans hBe
          have hfit : o' + n * inf.size + ys'.length ≤ cb.size := by
            rw [hyl, b2]
            have h1 : (n + k) * inf.size ≤ c' * inf.size := Nat.mul_le_mul_right _ (by omega)
            rw [hLe] at g7
            rw [Nat.add_mul] at h1
            omega
          have hone : ∀ u ∈ ys', u.oneCell' = true := ar.one
          have hrun := run_storeCells_w (P := P) L.blk (o' + n * inf.size) tb fr ys' 0 cb w b1 (b4 hro) (by simpa using hfit) hone
          let L2 : Loc := ⟨L.blk, L.size, inf.size, o'⟩
          let w1 := wput w L.blk (putsA cb (o' + n * inf.size + 0) ys') tb fr
          have hnew : ρ H.next = none := hr.none_ge (Nat.le_refl _)
          have hle : RhoLe ρ (rset ρ H.next L2) := rset_le hnew
          have hblt : b < H.next := hr.dom b L g1
          have hother : ∀ j M C, j ≠ b → ρ j = some M → H.blk j = some C → M.blk ≠ L.blk := fun j M C hj hM hC he => hj (hr.inj b j L M B C g1 hM hB hC hro he.symm).symm
          have hxs0 : ∀ j, j < n * inf.size → xs'[j]? = cb[o' + j]? := by
            intro j hj
            have hn : 0 < n := by rcases Nat.eq_zero_or_pos n with h | h; rw [h] at hj; simp at hj; exact h
            have ho := g6 (by omega)
            have hjl : j < xs'.length := by omega
            have := x3 j xs'[j] (List.getElem?_eq_getElem hjl)
            rw [add_at] at this
            simp only [World.cell?, b1] at this
            rw [List.getElem?_eq_getElem hjl, ← this, ho]
            simp
          have hty : AppTy H (.slice (some ⟨b, o, none⟩) n c) k e (rset ρ H.next L2) w1 := fun _ hx => by
            rcases hx with hx | ⟨b1, n1, C, hx, hn1, hC, hCt⟩
            · cases hx
            · cases hx
              rw [hB] at hC; cases hC
              obtain ⟨hs0, c0, hc0, _⟩ := (hr.typ b L B g1 hB).1 _ _ hCt
              rw [b1] at hc0; cases hc0
              have ho := g6 (by omega)
              exact ⟨L2, by simp [rset], by show o' = 0; omega, _, wput_heap b1⟩
          refine ⟨_, w1, rset ρ H.next L2, ar.room _ n c' w1 (by omega) (by simp only [add_at]; exact hrun), ?_, ?_, hty⟩
          · refine ⟨L2, o', c', by simp [rset], rfl, ⟨none, rfl, fun _ => rfl⟩, ?_, ?_, ?_, ?_, ?_⟩
            · omega
            · omega
            · intro _; omega
            · intro _; simp [L2]
            · show o' + c' * inf.size ≤ L.size
              rw [← hLe]; exact g7
          · have hlow : ∀ j M C, rset ρ H.next L2 j = some M → ((H.set b none).add (rowBlk inf.size (xs ++ ys))).blk j = some C → C.ro = false → gN ≤ M.blk := fun j M C hj hC hro' => by
              unfold rset at hj
              by_cases ej : j = H.next
              · rw [if_pos ej] at hj; cases hj
                exact hr.low b L B g1 hB hro
              · rw [if_neg ej] at hj
                have hjb : j ≠ b := fun e => by subst e; simp [Heap.add, Heap.set, ej] at hC
                have hC' : H.blk j = some C := by simpa [Heap.add, Heap.set, ej, hjb] using hC
                exact hr.low j M C hj hC' hro'
            have htyp : ∀ j M C, rset ρ H.next L2 j = some M → ((H.set b none).add (rowBlk inf.size (xs ++ ys))).blk j = some C → TyAt w1 M C := fun j M C hj hC => by
              unfold rset at hj
              by_cases ej : j = H.next
              · subst ej
                have hC' : rowBlk inf.size (xs ++ ys) = C := by simpa [Heap.add, Heap.set] using hC
                subst hC'
                refine TyAt.none rfl rfl fun _ g2 => ?_
                obtain ⟨c0, t0, u⟩ := (hr.typ b L B g1 hB).2.2 hro (by rw [hBe]; exact g2)
                rw [b1] at u; cases u
                rw [if_pos rfl] at hj; cases hj
                exact ⟨_, _, wput_heap b1⟩
              · rw [if_neg ej] at hj
                have hjb : j ≠ b := fun e => by subst e; simp [Heap.add, Heap.set, ej] at hC
                have hC' : H.blk j = some C := by simpa [Heap.add, Heap.set, ej, hjb] using hC
                exact (hr.typ j M C hj hC').keep (wput_other (hother j M C hjb hj hC'))
            refine ⟨hle, ⟨?_, ?_, ?_, gStable (fun cb2 hcb => wput_other (by have := hr.low b L B g1 hB hro; omega)) hr.j, hlow, htyp⟩, rfl, rfl, rfl, by simp [w1, wput], ?_, ?_, ?_, by simp [Heap.add, Heap.set], ?_⟩
            · intro j M hj
              unfold rset at hj
              by_cases ej : j = H.next
              · simp [Heap.add, Heap.set, ej]
              · rw [if_neg ej] at hj; have := hr.dom j M hj; simp [Heap.add, Heap.set]; omega
            · intro j M C hj hC
              unfold rset at hj
              by_cases ej : j = H.next
              · subst ej
                rw [if_pos rfl] at hj; cases hj
                have hC' : rowBlk inf.size (xs ++ ys) = C := by simpa [Heap.add, Heap.set] using hC
                subst hC'
                refine ⟨_, tb, fr, wput_heap b1, by rw [putsA_size]; exact b2, rfl, fun _ => by rw [putsA_size]; exact b4 hro, fun i u hu => ?_⟩
                obtain ⟨u', r1, r2⟩ := hxy.get (show (xs ++ ys)[i]? = some u from hu)
                refine ⟨u', ?_, r2.mono hle⟩
                show (putsA cb (o' + n * inf.size + 0) ys')[i + o']? = some u'
                by_cases hi1 : i < n * inf.size
                · rw [putsA_out ys' _ cb _ (.inl (by omega))]
                  rw [List.getElem?_append_left (by omega)] at r1
                  rw [← r1, hxs0 i hi1, Nat.add_comm i o']
                · rw [List.getElem?_append_right (by omega), x2] at r1
                  have hj2 := (List.getElem?_eq_some_iff.1 r1).1
                  rw [show i + o' = o' + n * inf.size + 0 + (i - n * inf.size) by omega, putsA_in ys' _ cb _ (by simpa using hfit) hj2]
                  exact r1
              · rw [if_neg ej] at hj
                have hjb : j ≠ b := fun e => by subst e; simp [Heap.add, Heap.set, ej] at hC
                have hC' : H.blk j = some C := by simpa [Heap.add, Heap.set, ej, hjb] using hC
                obtain ⟨c2, t2, f2, m1, m2, m3, m4, m5⟩ := hr.blk j M C hj hC'
                refine ⟨c2, t2, f2, by rw [wput_other (hother j M C hjb hj hC')]; exact m1, m2, m3, m4, fun i u hu => ?_⟩
                obtain ⟨u', r1, r2⟩ := m5 i u hu
                exact ⟨u', r1, r2.mono hle⟩
            · intro j1 j2 M1 M2 C1 C2 h1 h2 h3 h4 h5 h6
              unfold rset at h1 h2
              by_cases e1 : j1 = H.next
              · by_cases e2 : j2 = H.next
                · rw [e1, e2]
                · rw [if_pos e1] at h1; cases h1
                  rw [if_neg e2] at h2
                  have hjb : j2 ≠ b := fun e => by subst e; simp [Heap.add, Heap.set, e2] at h4
                  have hC' : H.blk j2 = some C2 := by simpa [Heap.add, Heap.set, e2, hjb] using h4
                  exact absurd h6.symm (hother j2 M2 C2 hjb h2 hC')
              · rw [if_neg e1] at h1
                have hjb1 : j1 ≠ b := fun e => by subst e; simp [Heap.add, Heap.set, e1] at h3
                have hC1 : H.blk j1 = some C1 := by simpa [Heap.add, Heap.set, e1, hjb1] using h3
                by_cases e2 : j2 = H.next
                · rw [if_pos e2] at h2; cases h2
                  exact absurd h6 (hother j1 M1 C1 hjb1 h1 hC1)
                · rw [if_neg e2] at h2
                  have hjb : j2 ≠ b := fun e => by subst e; simp [Heap.add, Heap.set, e2] at h4
                  have hC' : H.blk j2 = some C2 := by simpa [Heap.add, Heap.set, e2, hjb] using h4
                  exact hr.inj j1 j2 M1 M2 C1 C2 h1 h2 hC1 hC' h5 h6
            · intro cb2 hcb hno
              exact wput_other (fun e => hno b L B g1 hB hro e.symm)
            · intro j hj h0
              have ej : j ≠ H.next := by omega
              have ejb : j ≠ b := fun e => by subst e; rw [g1] at h0; cases h0
              exact ⟨by unfold rset; rw [if_neg ej]; exact h0, by simp [Heap.add, Heap.set, ej, ejb]⟩
            · intro j M h0 hj
              unfold rset at hj
              by_cases ej : j = H.next
              · rw [if_pos ej] at hj; cases hj
                exact ⟨by omega, .inr ⟨b, L, B, g1, hB, hro, rfl⟩⟩
              · rw [if_neg ej] at hj; rw [h0] at hj; cases hj
            · intro j M B' hj hB'
              have ej : j ≠ H.next := fun e => by subst e; rw [hnew] at hj; cases hj
              have ejb : j ≠ b := fun e => by subst e; simp [Heap.add, Heap.set, ej] at hB'
              exact ⟨B', by simpa [Heap.add, Heap.set, ej, ejb] using hB', rfl, rfl⟩
  · cases h
end
end Go.AM
