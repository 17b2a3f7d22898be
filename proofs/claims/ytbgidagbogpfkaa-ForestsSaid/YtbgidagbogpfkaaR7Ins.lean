import Derived.Test.YtbgidagbogpfkaaR7In
import Derived.Test.YtbgidagbogpfkaaR7Ov
import Derived.Test.YtbgidagbogpfkaaAg2
/- slices.Insert of one element: its contract. -/
namespace Go.AM
open Go.Proofs
set_option linter.unusedVariables false
set_option linter.unusedSimpArgs false
set_option maxRecDepth 100000
def insX (esz bytes : Nat) : List Value → Heap → Option (Value × Heap)
  | [.slice p n c, .int .i64 i, .slice (some ⟨b2, 0, none⟩) 1 c2], H =>
    match H.row b2 0 esz with
    | some ys =>
      if 0 ≤ i ∧ i ≤ n ∧ (n + 1) * bytes ≤ 2 ^ 46 ∧ rwB H b2 = true then
        match p with
        | some ⟨b, o, none⟩ =>
          if c % 2 = 0 then
            (match H.blk b, H.row b 0 (n * esz) with
             | some B, some xs => if o = 0 ∧ B.ro = false ∧ B.esz = esz ∧ b2 ≠ b ∧ n ≤ c / 2 ∧ 0 < c / 2 then
                 some (.slice (some ⟨H.next, 0, none⟩) (n + 1) (2 * (n + 1)), (H.set b none).add (rowBlk esz (xs.take (i.toNat * esz) ++ ys ++ xs.drop (i.toNat * esz)))) else none
             | _, _ => none)
          else if n = 0 then appV H esz bytes 1 (.slice (some ⟨b, o, none⟩) n c) ys else none
        | none => if n = 0 ∧ c = 0 then appV H esz bytes 1 (.slice none 0 0) ys else none
        | _ => none
      else none
    | none => none
  | _, _ => none
structure InsRun (f : FuncId) (esz bytes : Nat) (z : List Value) : Prop where
  able : Callable Try.prog f
  pos : 1 < esz
  zlen : z.length = esz
  zero : ∀ {H : Heap} {b2 c c2 : Nat} {ys : List Value} (p : Option Addr), ((p = none ∧ c = 0) ∨ ∃ b o, p = some ⟨b, o, none⟩) → ∀ {r : Value × Heap}, H.row b2 0 esz = some ys → appV H esz bytes 1 (.slice p 0 c) ys = some r →
    call K1 f [.slice p 0 c, .int .i64 0, .slice (some ⟨b2, 0, none⟩) 1 c2] H = some r
  end_room : ∀ {H : Heap} {b b2 n c c2 : Nat} {B : Blk} {xs ys : List Value}, H.blk b = some B → B.ro = false → B.esz = esz → B.room = some (c * esz) → H.row b 0 (n * esz) = some xs → H.row b2 0 esz = some ys → ys.all Value.oneCell' = true → n + 1 ≤ c → (n + 1) * bytes ≤ 2 ^ 46 →
    call K1 f [.slice (some ⟨b, 0, none⟩) n (2 * c + 1), .int .i64 (n : Int), .slice (some ⟨b2, 0, none⟩) 1 c2] H = some (.slice (some ⟨b, 0, none⟩) (n + 1) (2 * c + 1), H.set b (some (B.puts (n * esz) ys)))
  end_grow : ∀ {H : Heap} {b b2 n c c2 : Nat} {B : Blk} {xs ys : List Value}, H.blk b = some B → B.esz = esz → H.row b 0 (n * esz) = some xs → H.row b2 0 esz = some ys → ys.all Value.oneCell' = true → n ≤ c → c < n + 1 → (n + 1) * bytes ≤ 2 ^ 46 →
    call K1 f [.slice (some ⟨b, 0, none⟩) n (2 * c + 1), .int .i64 (n : Int), .slice (some ⟨b2, 0, none⟩) 1 c2] H = some (.slice (some ⟨H.next, 0, none⟩) (n + 1) (2 * (n + 1)), H.add (rowBlk esz (xs ++ ys)))
  mid_grow : ∀ {H : Heap} {b b2 n c i c2 : Nat} {B : Blk} {xs ys : List Value}, H.blk b = some B → B.esz = esz → H.row b 0 (n * esz) = some xs → xs.all Value.oneCell' = true → H.row b2 0 esz = some ys → ys.all Value.oneCell' = true → b < H.next → b2 < H.next → i < n → n ≤ c → c < n + 1 → (n + 1) * bytes ≤ 2 ^ 46 →
    call K1 f [.slice (some ⟨b, 0, none⟩) n (2 * c + 1), .int .i64 (i : Int), .slice (some ⟨b2, 0, none⟩) 1 c2] H =
      some (.slice (some ⟨H.next, 0, none⟩) (n + 1) (2 * (n + 1)), H.add (((rowBlk esz (xs.take (i * esz) ++ rep z (n + 1 - i))).puts (i * esz) ys).puts ((i + 1) * esz) (xs.drop (i * esz))))
  mid_room : ∀ {H : Heap} {b b2 n c i c2 : Nat} {B : Blk} {xs ys : List Value}, H.blk b = some B → B.ro = false → B.esz = esz → B.room = some (c * esz) → H.row b 0 (n * esz) = some xs → xs.all Value.oneCell' = true → H.row b2 0 esz = some ys → ys.all Value.oneCell' = true → b2 ≠ b → rwB H b2 = true → i < n → n + 1 ≤ c → (n + 1) * bytes ≤ 2 ^ 46 →
    call K1 f [.slice (some ⟨b, 0, none⟩) n (2 * c + 1), .int .i64 (i : Int), .slice (some ⟨b2, 0, none⟩) 1 c2] H =
      some (.slice (some ⟨b, 0, none⟩) (n + 1) (2 * c + 1), H.set b (some ((B.puts ((i + 1) * esz) (xs.drop (i * esz))).puts (i * esz) ys)))
theorem all_one {ρ : Rho} {xs xs' : List Value} (h : All2 (V1 ρ) xs xs') : xs.all Value.oneCell' = true := by
  rw [List.all_eq_true]
  intro a ha
  obtain ⟨i, hi, e⟩ := List.mem_iff_getElem.1 ha
  obtain ⟨y, _, hV⟩ := h.get (List.getElem?_eq_getElem hi)
  rw [← e]; exact hV.oneCell.1
/-- The row with one more. -/
theorem ins_cells {esz n i : Nat} {xs ys : List Value} (hx : xs.length = n * esz) (hy : ys.length = esz) (hi : i ≤ n) (g : Nat → Option Value) (h1 : ∀ j, j < i * esz → g j = xs[j]?) (h2 : ∀ j, j < esz → g (i * esz + j) = ys[j]?) (h3 : ∀ j, i * esz + j < n * esz → g ((i + 1) * esz + j) = xs[i * esz + j]?) :
    ∀ j v, (rowBlk esz (xs.take (i * esz) ++ ys ++ xs.drop (i * esz))).at_ j = some v → g j = some v := by
  intro j v hv
  rw [at_row] at hv
  have hie : i * esz ≤ n * esz := Nat.mul_le_mul_right _ hi
  have htl : (xs.take (i * esz)).length = i * esz := by rw [List.length_take]; omega
  by_cases c1 : j < i * esz
  · rw [List.append_assoc, List.getElem?_append_left (by omega), List.getElem?_take, if_pos c1] at hv
    rw [h1 j c1]; exact hv
  · by_cases c2 : j < i * esz + esz
    · rw [List.append_assoc, List.getElem?_append_right (by omega), htl, List.getElem?_append_left (by omega)] at hv
      have := h2 (j - i * esz) (by omega)
      rw [show i * esz + (j - i * esz) = j by omega] at this
      rw [this]; exact hv
    · rw [List.getElem?_append_right (by rw [List.length_append]; omega), List.length_append, htl, hy, List.getElem?_drop] at hv
      have hlt := (List.getElem?_eq_some_iff.1 hv).1
      have := h3 (j - (i * esz + esz)) (by omega)
      rw [Nat.succ_mul, show i * esz + esz + (j - (i * esz + esz)) = j by omega] at this
      rw [this]; exact hv
theorem insX_sound {f : FuncId} {esz bytes : Nat} {z : List Value} (R : InsRun f esz bytes z) : XSound Try.prog f (insX esz bytes) where
  next := fun args H v H' hg hw => by
    unfold insX at hg
    repeat' split at hg
    all_goals first | (cases hg; done) | exact app_next hg hw | (cases hg; exact ⟨(hw.set (.inr rfl)).add _, Nat.le_succ _⟩)
  sound := fun args H v H' hg ρ args' w hw hr ha => by
    unfold insX at hg
    split at hg
    case h_2 => cases hg
    rename_i H0 p n c i b2 c2
    split at hg
    case h_2 => cases hg
    rename_i ys hy
    split at hg
    case isFalse => cases hg
    rename_i hcond
    obtain ⟨i0, i1, hb, hr2⟩ := hcond
    have hyl := (row_cell hy).1
    split at hg
    · rename_i b o
      split at hg
      · rename_i hev
        split at hg
        case h_2 => cases hg
        rename_i B xs hB hx
        split at hg
        case isFalse => cases hg
        rename_i hc
        obtain ⟨rfl, hro, hez, hbb, hnc, hpos⟩ := hc
        cases hg
        have hxl := (row_cell hx).1
        obtain ⟨k, rfl⟩ : ∃ k : Nat, i = k := ⟨i.toNat, by omega⟩
        have hk : k ≤ n := by omega
        rw [show ((k : Int).toNat) = k by omega]
        match args', ha with
        | [a1, a2, a3], ⟨g1, g2, g3, _⟩ =>
          obtain rfl : a2 = .int .i64 k := V3.flat (ρ := ρ) (v := .int .i64 k) rfl g2
          obtain ⟨L, o', c', sp, q1, e1, q3, q4, q5, q6, q7, q9⟩ := g1.slice_inv
          obtain rfl : sp = none := q9 (by omega)
          obtain ⟨L2, o2, c3, _, t1, e2, _⟩ := g3.slice_inv
          have ho := q6 hpos
          obtain ⟨xs', x1, _, _⟩ := row_sound hr q1 _ _ hx
          obtain ⟨ys', y1, _, _⟩ := row_sound hr t1 _ _ hy
          have hx1 := all_one x1
          have hy1 := all_one y1
          have hbn := hw.lt hB
          have hsk : (k + 1) * esz = k * esz + esz := Nat.succ_mul _ _
          have hkn : k * esz ≤ n * esz := Nat.mul_le_mul_right esz hk
          have hb2 : b2 < H.next := hr.dom b2 L2 t1
          have hLe : L.esz = esz := by obtain ⟨_, _, _, _, _, h, _⟩ := hr.blk b L B q1 hB; rw [h, hez]
          have hv1 : V3 ρ (.slice (some ⟨b, 0, none⟩) n (2 * c' + 1)) a1 := ⟨L, o', c', q1, rfl, ⟨none, e1, fun _ => rfl⟩, by omega, by omega, fun _ => by omega, fun _ => ho, q7⟩
          have hall : All2 (V3 ρ) [.slice (some ⟨b, 0, none⟩) n (2 * c' + 1), .int .i64 (k : Int), .slice (some ⟨b2, 0, none⟩) 1 c2] [a1, .int .i64 k, a3] := ⟨hv1, g2, g3, trivial⟩
          by_cases hroom : n + 1 ≤ c'
          · -- there is room
            have hB0 : (H.set b (some { B with room := some (c' * esz) })).blk b = some { B with room := some (c' * esz) } := blk_set_self _ _ _
            have hrel : RelH ρ (H.set b (some { B with room := some (c' * esz) })) w := by
              have old : ∀ {k : Nat} {C' : Blk}, (H.set b (some { B with room := some (c' * esz) })).blk k = some C' → ∃ C, H.blk k = some C ∧ C.ro = C'.ro ∧ C.esz = C'.esz ∧ C.at_ = C'.at_ ∧ C.ty = C'.ty ∧ (C' = C ∨ (k = b ∧ C'.room = some (c' * esz))) := by
                intro k C' h
                rw [set_blk] at h
                split at h
                · rename_i e; cases h; subst e; exact ⟨B, hB, rfl, rfl, rfl, rfl, .inr ⟨rfl, rfl⟩⟩
                · exact ⟨C', h, rfl, rfl, rfl, rfl, .inl rfl⟩
              refine ⟨fun k M hk => hr.dom k M hk, fun k M C' hk hC => ?_, fun k1 k2 M1 M2 D1 D2 u1 u2 u3 u4 u5 u6 => ?_, hr.j, fun k M C' hk hC hro' => ?_, fun k M C' hk hC => ?_⟩
              · obtain ⟨C, r1, r2, r3, r4, _⟩ := old hC
                obtain ⟨c, t, fr, m1, m2, m3, m4, m5⟩ := hr.blk k M C hk r1
                exact ⟨c, t, fr, m1, m2, m3.trans r3, fun h => m4 (r2.trans h), fun o v hv => m5 o v (by rw [r4]; exact hv)⟩
              · obtain ⟨C1, r1, r2, _⟩ := old u3
                obtain ⟨C2, r3, _⟩ := old u4
                exact hr.inj k1 k2 M1 M2 C1 C2 u1 u2 r1 r3 (r2.trans u5) u6
              · obtain ⟨C, r1, r2, _⟩ := old hC
                exact hr.low k M C hk r1 (r2.trans hro')
              · obtain ⟨C, r1, r2, r3, r4, r5, r6⟩ := old hC
                obtain ⟨m1, m2, m3⟩ := hr.typ k M C hk r1
                refine ⟨fun T e he => by have := m1 T e (r5.trans he); rw [← r3]; exact this, fun r hrr => ?_, fun h1 h2 => m3 (r2.trans h1) (by rw [r3]; exact h2)⟩
                rcases r6 with rfl | ⟨rfl, hrm⟩
                · exact m2 r hrr
                · rw [hrm] at hrr; cases hrr
                  rw [q1] at hk; cases hk
                  rw [hLe] at q7; omega
            have hw0 : Hw (H.set b (some { B with room := some (c' * esz) })) := hw.set (.inl hbn)
            have hx0 : (H.set b (some { B with room := some (c' * esz) })).row b 0 (n * esz) = some xs := by
              rw [row_congr (fun o => ?_)]; exact hx
              rw [cell_set_self]; simp only [Heap.cell, hB]
            have hy0 : (H.set b (some { B with room := some (c' * esz) })).row b2 0 esz = some ys := by rw [row_congr (fun o => cell_set_ne hbb)]; exact hy
            have hr20 : rwB (H.set b (some { B with room := some (c' * esz) })) b2 = true := by unfold rwB; rw [blk_set_ne hbb]; exact hr2
            have fin : ∀ B' : Blk, call K1 f [.slice (some ⟨b, 0, none⟩) n (2 * c' + 1), .int .i64 (k : Int), .slice (some ⟨b2, 0, none⟩) 1 c2] (H.set b (some { B with room := some (c' * esz) })) = some (.slice (some ⟨b, 0, none⟩) (n + 1) (2 * c' + 1), H.set b (some B')) →
                B'.ro = false → B'.esz = esz → (∀ j v, (rowBlk esz (xs.take (k * esz) ++ ys ++ xs.drop (k * esz))).at_ j = some v → B'.at_ j = some v) →
                Does Try.prog f [a1, .int .i64 k, a3].toArray w fun e w' => ∃ v' ρ', e = .returned v' ∧ V3 ρ' (.slice (some ⟨H.next, 0, none⟩) (n + 1) (2 * (n + 1))) v' ∧ Adv H.next ρ H w ρ' ((H.set b none).add (rowBlk esz (xs.take (k * esz) ++ ys ++ xs.drop (k * esz)))) w' := by
              intro B' hcall h1 h2 h3
              refine .inl ⟨R.able, ((call_sound k1Ok hcall hw0 hrel hall R.able)).mono fun e w' he => ?_⟩
              obtain ⟨v', ρ1, rfl, hv, hadv⟩ := he
              refine ⟨v', rset ρ1 H.next L, rfl, ?_, adv_swap hw hB hro q1 hadv hro h1 h2 rfl rfl rfl h3⟩
              obtain ⟨L', o3, c4, sp, s1, rfl, s3, s4, s5, s6, s7, s9⟩ := hv.slice_inv
              obtain rfl : sp = none := s9 (by omega)
              rw [hadv.ext b L q1] at s1; cases s1
              have h8 := s5 (by omega)
              exact ⟨L, o3, c4, by simp [rset], rfl, ⟨none, rfl, fun _ => rfl⟩, by omega, by omega, fun h => by omega, fun _ => by rw [s6 (by omega)], s7⟩
            rcases Nat.lt_or_ge k n with hlt | hge
            · refine fin (({ B with room := some (c' * esz) } : Blk).puts ((k + 1) * esz) (xs.drop (k * esz)) |>.puts (k * esz) ys) (by rw [R.mid_room hB0 hro hez rfl hx0 hx1 hy0 hy1 hbb hr20 hlt hroom hb, set_set]) ((puts_esz _ _ _).2.trans ((puts_esz _ _ _).2.trans hro)) ((puts_esz _ _ _).1.trans ((puts_esz _ _ _).1.trans hez)) (ins_cells hxl hyl hk _ (fun j hj => ?_) (fun j hj => ?_) fun j hj => ?_)
              · rw [puts_at, if_neg (by omega), puts_at, if_neg (by omega)]
                have := (row_cell hx).2 j (by have := Nat.mul_le_mul_right esz hk; omega)
                simp only [Heap.cell, hB, Nat.zero_add] at this
                exact this
              · rw [puts_at, if_pos (by omega)]; congr 1; omega
              · rw [puts_at, if_neg (by omega), puts_at, if_pos ⟨by omega, by rw [List.length_drop]; omega⟩, List.getElem?_drop]; congr 1; omega
            · obtain rfl : k = n := by omega
              refine fin (({ B with room := some (c' * esz) } : Blk).puts (k * esz) ys) (by rw [R.end_room hB0 hro hez rfl hx0 hy0 hy1 hroom hb, set_set]) ((puts_esz _ _ _).2.trans hro) ((puts_esz _ _ _).1.trans hez) (ins_cells hxl hyl hk _ (fun j hj => ?_) (fun j hj => ?_) fun j hj => by omega)
              · rw [puts_at, if_neg (by omega)]
                have := (row_cell hx).2 j (by omega)
                simp only [Heap.cell, hB, Nat.zero_add] at this
                exact this
              · rw [puts_at, if_pos (by omega)]; congr 1; omega
          · -- there is none
            have fin : ∀ B' : Blk, call K1 f [.slice (some ⟨b, 0, none⟩) n (2 * c' + 1), .int .i64 (k : Int), .slice (some ⟨b2, 0, none⟩) 1 c2] H = some (.slice (some ⟨H.next, 0, none⟩) (n + 1) (2 * (n + 1)), H.add B') →
                B'.ro = false → B'.esz = esz → (∀ j v, (rowBlk esz (xs.take (k * esz) ++ ys ++ xs.drop (k * esz))).at_ j = some v → B'.at_ j = some v) →
                Does Try.prog f [a1, .int .i64 k, a3].toArray w fun e w' => ∃ v' ρ', e = .returned v' ∧ V3 ρ' (.slice (some ⟨H.next, 0, none⟩) (n + 1) (2 * (n + 1))) v' ∧ Adv H.next ρ H w ρ' ((H.set b none).add (rowBlk esz (xs.take (k * esz) ++ ys ++ xs.drop (k * esz)))) w' := by
              intro B' hcall h1 h2 h3
              refine .inl ⟨R.able, ((call_sound k1Ok hcall hw hr hall R.able)).mono fun e w' he => ?_⟩
              obtain ⟨v', ρ1, rfl, hv, hadv⟩ := he
              exact ⟨v', ρ1, rfl, hv, adv_left hw hbn q1 hadv h1 h2 rfl rfl rfl h3⟩
            rcases Nat.lt_or_ge k n with hlt | hge
            · refine fin (((rowBlk esz (xs.take (k * esz) ++ rep z (n + 1 - k))).puts (k * esz) ys).puts ((k + 1) * esz) (xs.drop (k * esz))) (R.mid_grow hB hez hx hx1 hy hy1 hbn hb2 hlt (by omega) (by omega) hb) ((puts_esz _ _ _).2.trans ((puts_esz _ _ _).2.trans rfl)) ((puts_esz _ _ _).1.trans ((puts_esz _ _ _).1.trans rfl)) (ins_cells hxl hyl hk _ (fun j hj => ?_) (fun j hj => ?_) fun j hj => ?_)
              · rw [puts_at, if_neg (by omega), puts_at, if_neg (by omega), at_row, List.getElem?_append_left (by rw [List.length_take]; have := Nat.mul_le_mul_right esz hk; omega), List.getElem?_take, if_pos hj]
              · rw [puts_at, if_neg (by omega), puts_at, if_pos (by omega)]; congr 1; omega
              · rw [puts_at, if_pos ⟨by omega, by rw [List.length_drop]; omega⟩, List.getElem?_drop]; congr 1; omega
            · obtain rfl : k = n := by omega
              refine fin (rowBlk esz (xs ++ ys)) (R.end_grow hB hez hx hy hy1 (by omega) (by omega) hb) rfl rfl (ins_cells hxl hyl hk _ (fun j hj => ?_) (fun j hj => ?_) fun j hj => by omega)
              · rw [at_row, List.getElem?_append_left (by omega)]
              · rw [at_row, List.getElem?_append_right (by omega)]; congr 1; omega
      · split at hg
        case isFalse => cases hg
        rename_i hn0
        subst hn0
        obtain rfl : i = 0 := by omega
        have hall := ha
        exact call_does k1Ok (R.zero _ (.inr ⟨b, o, rfl⟩) hy hg) hw hr ha
    · split at hg
      case isFalse => cases hg
      rename_i hn0
      obtain ⟨rfl, rfl⟩ := hn0
      obtain rfl : i = 0 := by omega
      exact call_does k1Ok (R.zero none (.inl ⟨rfl, rfl⟩) hy hg) hw hr ha
    · cases hg
theorem insInfo_sound : XSound Try.prog f_slices_Insert_Info (insX 5 80) :=
  insX_sound (z := [(.string ⟨#[]⟩), (.int .i64 0), (.string ⟨#[]⟩), (.string ⟨#[]⟩), (.slice none 0 0)]) ⟨Callable.of_fn fc_slices_Insert_Info, by decide, rfl, insInfo_zero, insInfo_end_room, insInfo_end_grow, insInfo_mid_grow, insInfo_mid_room⟩
theorem insFile_sound : XSound Try.prog f_slices_Insert_File (insX 3 40) :=
  insX_sound (z := [(.string ⟨#[]⟩), (.string ⟨#[]⟩), (.bool false)]) ⟨Callable.of_fn fc_slices_Insert_File, by decide, rfl, insFile_zero, insFile_end_room, insFile_end_grow, insFile_mid_grow, insFile_mid_room⟩
#print axioms insInfo_sound
end Go.AM
