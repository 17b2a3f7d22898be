import Derived.Test.YtbgidagbogpfkaaDoorR8B
/- strings.Builder for the machine: WriteString. -/
namespace Go.AM
open Go.Proofs Go.RowKit
set_option linter.unusedVariables false
set_option linter.unusedSimpArgs false
set_option maxRecDepth 1000000
/-- What a builder's second cell may be. -/
def BufOk (H : Heap) (b : Nat) (x : Value) : Prop := x = .slice none 0 0 ∨ ∃ bb n C, bb ≠ b ∧ x = .slice (some ⟨bb, 0, none⟩) n (2 * n) ∧ 0 < n ∧ H.blk bb = some C ∧ C.ty = some (5, false)
open Classical in
noncomputable def writeX : List Value → Heap → Option (Value × Heap)
  | [.pointer (some ⟨b, 0, none⟩), .string s], H => match H.blk b with
    | some B => if B.ty = some (46, true) ∧ B.ro = false ∧ B.esz = 2 ∧ (B.at_ 0 = some (.pointer none) ∨ B.at_ 0 = some (ptr b 0)) ∧ s.size ≠ 0 then (match B.at_ 1 with
      | some x => if BufOk H b x then (match H.store b 0 [ptr b 0] with
        | some H1 => (match appV H1 1 1 s.size x (rowOfBytes s) with
          | some (v, H2) => (match H2.blk b with
            | some B2 => if B2.ty = some (46, true) ∧ B2.ro = false ∧ B2.esz = 2 ∧ (B2.at_ 1).isSome = true then (match H2.store b 1 [v] with
              | some H3 => (match H3.blk H.next with
                | some C => some (.tuple #[.int .i64 (s.size : Int), .nilIface], H3.set H.next (some { C with ty := some (5, false) }))
                | none => none)
              | none => none) else none
            | none => none)
          | none => none)
        | none => none) else none
      | none => none) else none
    | none => none
  | _, _ => none
theorem cell_one_store {P : Program} {w w1 : World} {g o : Nat} {c : Array Value} {t : TypeId} {v : Value} (h : w.heap[g]? = some (.cells c t (0, 0))) (hl : o < c.size) (hr : (storeCells ⟨g, o, none⟩ [v]).run P w = .ok () w1) (h1 : v.oneCell' = true) : w1 = w.setCell ⟨g, o, none⟩ v := by
  have := run_storeCells_w (P := P) g o t (0, 0) [v] 0 c w h (.inl (Nat.le_refl _)) (by simp; omega) (by simpa using h1)
  rw [this] at hr
  cases hr
  rw [setCell_wput h]
  rfl
theorem app_result {H H' : Heap} {b esz bytes k : Nat} {x v : Value} {ys : List Value} (hx : BufOk H b x) (hk : k ≠ 0) (h : appV H esz bytes k x ys = some (v, H')) : ∃ n, v = .slice (some ⟨H.next, 0, none⟩) n (2 * n) ∧ H'.next = H.next + 1 := by
  unfold appV at h
  rw [if_neg hk] at h
  rcases hx with rfl | ⟨bb, n, C, hb, rfl, hn, hC, hCt⟩
  · simp only at h
    split at h
    · cases h; exact ⟨_, rfl, rfl⟩
    · cases h
  · simp only at h
    rw [if_neg (by omega)] at h
    split at h
    · split at h
      · rw [if_neg (by omega)] at h
        split at h
        · split at h
          · cases h; exact ⟨_, rfl, rfl⟩
          · cases h
        · cases h
      · cases h
    · cases h
theorem writeX_sound : XSound Tryd.prog f_strings_Builder_WriteString writeX where
  next := fun args H v H' hg hw => by
    unfold writeX at hg
    split at hg
    case h_2 => cases hg
    rename_i b s
    split at hg
    case h_2 => cases hg
    split at hg
    case isFalse => cases hg
    rename_i hc
    split at hg
    case h_2 => cases hg
    rename_i x hx
    split at hg
    case isFalse => cases hg
    split at hg
    case h_2 => cases hg
    rename_i H1 h1
    split at hg
    case h_2 => cases hg
    rename_i v2 H2 h2
    split at hg
    case h_2 => cases hg
    split at hg
    case isFalse => cases hg
    split at hg
    case h_2 => cases hg
    rename_i H3 h3
    split at hg
    case h_2 => cases hg
    rename_i C hC
    cases hg
    obtain ⟨a1, a2⟩ := store_next h1
    obtain ⟨b1, b2⟩ := app_next h2 (a1 hw)
    obtain ⟨c1, c2⟩ := store_next h3
    refine ⟨(c1 b1).set (.inl ((c1 b1).lt hC)), ?_⟩
    show H.next ≤ H3.next
    omega
  sound := fun args H v H' hg ρ args' w hw hr ha => by
    have able : Callable Tryd.prog f_strings_Builder_WriteString := Callable.of_at Tryd.lays166.f166 (by kernel_rfl) rfl
    unfold writeX at hg
    split at hg
    case h_2 => cases hg
    rename_i b s
    obtain ⟨p', l', rfl, hp, hl'⟩ := ha.cons_left
    obtain ⟨s', l', rfl, hs', hl'⟩ := hl'.cons_left
    obtain rfl := hl'.nil_left
    obtain rfl := hs'.string_inv
    obtain ⟨L, hL, rfl⟩ := hp.ptr_inv
    split at hg
    case h_2 => cases hg
    rename_i B hB
    split at hg
    case isFalse => cases hg
    rename_i hc
    obtain ⟨c1, c2, c3, c4, c5⟩ := hc
    split at hg
    case h_2 => cases hg
    rename_i x hx
    split at hg
    case isFalse => cases hg
    rename_i hbuf
    split at hg
    case h_2 => cases hg
    rename_i H1 h1
    split at hg
    case h_2 => cases hg
    rename_i v2 H2 h2
    split at hg
    case h_2 => cases hg
    rename_i B2 hB2
    split at hg
    case isFalse => cases hg
    rename_i hd
    obtain ⟨d1, d2, d3, d4⟩ := hd
    split at hg
    case h_2 => cases hg
    rename_i H3 h3
    split at hg
    case h_2 => cases hg
    rename_i C hC
    cases hg
    obtain ⟨hs, p, x', hh, hv, hp0⟩ := bld_block hr hL hB c1 c3 hx
    have hzero : 0 + L.shift = 0 := by omega
    rw [hzero]
    have hpc : p = .pointer none ∨ p = .pointer (some ⟨L.blk, 0, none⟩) := by
      rcases c4 with c4 | c4
      · exact .inl (hp0 _ c4).2
      · obtain ⟨L2, e1, e2⟩ := V3.ptr_inv (hp0 _ c4).two.three
        rw [hL] at e1; cases e1
        rw [hzero] at e2; exact .inr e2
    -- the own address
    obtain ⟨w1, r1, adv1⟩ := store_sound hr h1 hL (Nat.le_refl H.next) (vs' := [.pointer (some ⟨L.blk, 0, none⟩)]) ⟨⟨L, hL, rfl, by rw [hzero]⟩, trivial⟩ Tryd.prog
    rw [hzero] at r1
    obtain rfl := cell_one_store hh (by simp) r1 rfl
    have n1 : H1.next = H.next := (store_next h1).2
    have hbuf1 : BufOk H1 b x := by
      rcases hbuf with h | ⟨bb, n, C, e1, e2, e3, e4, e5⟩
      · exact .inl h
      · refine .inr ⟨bb, n, C, e1, e2, e3, ?_, e5⟩
        simp only [Heap.store, hB] at h1
        split at h1
        · cases h1; simp [Heap.set, e1, e4]
        · cases h1
    obtain ⟨n2, rfl, m2⟩ := app_result hbuf1 c5 h2
    -- the append
    have ht : Tryd.prog.underlying 39 = some (.slice 5) := Tryd.underlying39
    have hu : Tryd.prog.underlying 9 = some .string := Tryd.underlying9
    have hz : zeroOf Tryd.prog 5 = some [.int .u8 0] := by kernel_rfl
    obtain ⟨inf, zv, q1, q2, q3, q4, q5, q6⟩ := zero_inv hz
    have hby : inf.bytes = 1 := by
      have : (Tryd.prog.info? 5).map (·.bytes) = some 1 := by kernel_rfl
      rw [q1] at this; simpa using this
    have hsz : inf.size = 1 := by simp at q4; omega
    have hlenr : (rowOfBytes s).length = s.size := by unfold rowOfBytes; rw [List.length_map, Array.length_toList]; rfl
    obtain ⟨ys', y1, y2, y3⟩ := elems_sound (P := Tryd.prog) (tx := 9) adv1.rel (esz := 1) (k := s.size) (.inr hu) (V3.of_flat (ρ := ρ) (v := .string s) rfl) rfl (show elems H1 1 s.size (.string s) = some (rowOfBytes s) by simp [elems, ← hlenr])
    have h2' : appV H1 1 inf.bytes s.size x (rowOfBytes s) = some (.slice (some ⟨H1.next, 0, none⟩) n2 (2 * n2), H2) := by rw [hby]; exact h2
    obtain ⟨v3, w2, ρ2, r2, hv2, adv2, hty⟩ := app_typed (P := Tryd.prog) (ty := 39) (zv := default) (y' := .string s) adv1.rel ht hz q1 rfl (hv.two.three.mono adv1.ext) y1 (by simp [hlenr]) (fun zv' hz' => AppRun.ofSrc ht q1 hz' (by rw [hsz]; exact y3)) h2'
    obtain ⟨L', hL', hs', cc, hcc⟩ := hty c5 (by
      rcases hbuf1 with h | ⟨bb, n, C, e1, e2, e3, e4, e5⟩
      · exact .inl h
      · exact .inr ⟨bb, n, C, e2, e3, e4, e5⟩)
    rw [n1] at hL'
    obtain ⟨L3, o3, c3', s3, z1, rfl, _⟩ := hv2.slice_inv
    -- the builder
    have hL2 : ρ2 b = some L := adv2.ext b L (adv1.ext b L hL)
    obtain ⟨x2, hx2⟩ := Option.isSome_iff_exists.1 d4
    obtain ⟨_, p2, x2', hh2, _, _⟩ := bld_block adv2.rel hL2 hB2 d1 d3 hx2
    obtain ⟨w3, r3, adv3⟩ := store_sound adv2.rel h3 hL2 (Nat.le_refl H2.next) (vs' := [.slice (some ⟨L3.blk, o3, s3⟩) n2 c3']) ⟨hv2, trivial⟩ Tryd.prog
    rw [show 1 + L.shift = 1 by omega] at r3
    obtain rfl := cell_one_store hh2 (by simp) r3 rfl
    have hne : H.next ≠ b := by have := hr.dom b L hL; omega
    have hC2 : H2.blk H.next = some C := by
      simp only [Heap.store, hB2] at h3
      split at h3
      · cases h3; simpa [Heap.set, hne] using hC
      · cases h3
    have hblk : L'.blk ≠ L.blk := fun e => hne (adv2.rel.inj b H.next L L' B2 C hL2 hL' hB2 hC2 d2 e.symm).symm
    have hty3 : TyAt (w2.setCell ⟨L.blk, 1, none⟩ (.slice (some ⟨L3.blk, o3, s3⟩) n2 c3')) L' { C with ty := some (5, false) } := by
      obtain ⟨t1, t2, t3⟩ := adv3.rel.typ H.next L' C hL' hC
      refine ⟨fun T e he => ?_, t2, t3⟩
      cases he
      refine ⟨hs', cc, ?_, fun h => by cases h⟩
      rw [setCell_wput hh2, wput_other hblk]; exact hcc
    have adv4 := Adv.retype (base := H.next) adv3.rel hL' hC (some (5, false)) hty3
    refine .inl ⟨able, (write_walk Tryd.lays166 Tryd.Builder_Extra_166 L.blk p x' p2 x2' _ s w w2 hh hpc r2 ⟨_, _, _, rfl⟩ hh2).mono fun e w' he => ?_⟩
    obtain ⟨rfl, rfl⟩ := he
    refine ⟨_, ρ2, rfl, V3.of_flat rfl, ?_⟩
    have b2 := adv2.base (base := H.next) (by omega)
    have b3 := adv3.base (base := H.next) (by omega)
    exact ((adv1.trans b2).trans b3).trans adv4
end Go.AM
