import Derived.Test.YtiiliffoclejlaaAm0
import Derived.Deep.AppendSrc
section TextAmOp2
/- AM: operations that write nothing and make nothing: one by one. -/
namespace Go.AM
set_option linter.unusedVariables false
set_option linter.unusedSimpArgs false
section
variable {P : Program} {w : World}
theorem capt_sound {ρ : Rho} : ∀ {vs vs' : List Value}, All2 (V3 ρ) vs vs' → vs.all capt = true → All2 (V0 ρ) vs vs'
  | [], [], _, _ => trivial
  | v :: vs, v' :: vs', h, hc => by
    simp only [List.all_cons, Bool.and_eq_true] at hc
    refine ⟨?_, capt_sound h.2 hc.2⟩
    have h1 := h.1
    have hv := hc.1
    cases v
    case pointer a =>
      cases a with
      | none => exact h1
      | some a => exact h1
    case slice a n c =>
      cases a with
      | none => exact h1
      | some a => exact h1
    case func fn first cap =>
      have := V1.flat (ρ := ρ) (v := .func fn first cap) (v' := v') hv h1
      rw [this]; exact V0.of_flat hv
    case agg cs => simp [capt, flat1] at hv
    case tuple cs => simp [capt, flat1] at hv
    all_goals exact h1
theorem cArgs_get : ∀ {xs : List Operand} {ys : List Arg}, cArgs xs = some ys → xs.length = ys.length
  | [], ys, h => by cases h; rfl
  | x :: xs, ys, h => by
    simp only [cArgs] at h
    split at h
    · rename_i a l h1 h2; cases h; simp [cArgs_get h2]
    · cases h
def bndS (d y : Nat) (code : BoundsCode) : Option Value → Sem Nat
  | some v => Instr.sliceBound v y code
  | none => pure d
theorem bounds_two (isS : Bool) (len cap : Nat) (lo hi : Option Value) : Instr.sliceBounds isS len cap lo hi none =
    (do let h ← bndS len cap (if isS then .sliceAcap else .sliceAlen) hi; let l ← bndS 0 h .sliceB lo; pure (l, h, cap)) := by
  unfold Instr.sliceBounds
  cases hi <;> cases lo <;> rfl
theorem bounds_three (isS : Bool) (len cap : Nat) (lo : Option Value) (hi mx : Value) : Instr.sliceBounds isS len cap lo (some hi) (some mx) =
    (do let m ← Instr.sliceBound mx cap (if isS then .slice3Acap else .slice3Alen); let h ← Instr.sliceBound hi m .slice3B; let l ← bndS 0 h .slice3C lo; pure (l, h, m)) := by
  unfold Instr.sliceBounds
  cases lo <;> rfl
theorem ptr_of {ρ : Rho} {v v' : Value} {b o : Nat} (hv : V3 ρ v v') (h : v = .pointer (some ⟨b, o, none⟩)) : ∃ L, ρ b = some L ∧ v' = .pointer (some ⟨L.blk, o + L.shift, none⟩) := by
  subst h; exact hv.ptr_inv

theorem ld_sound {ρ : Rho} {H : Heap} (hr : RelH ρ H w) {t : TypeId} {b o n : Nat} {g : Bool} {v : Value} {L : Loc} (hb : ρ b = some L) (hz : szOf P t = some n) (hg : aggOf P t = some g)
    (h : (if g then (H.row b o n).map (fun vs => Value.agg vs.toArray) else H.cell b o) = some v) : ∃ v', (Instr.loadAt t (.pointer (some ⟨L.blk, o + L.shift, none⟩))).run P w = .ok v' w ∧ V3 ρ v v' := by
  cases g with
  | true =>
    simp only [if_true] at h
    cases hrow : H.row b o n with
    | none => rw [hrow] at h; cases h
    | some vs =>
      rw [hrow] at h; cases h
      obtain ⟨vs', h1, h2, h3⟩ := row_sound hr hb n o hrow
      refine ⟨.agg vs'.toArray, ?_, ⟨_, rfl, by simpa using h1⟩⟩
      simp [Instr.loadAt, Instr.sureAddr, loadVar, run_agg hg, run_sz hz, run_row h2 h3]
  | false =>
    simp only [Bool.false_eq_true, if_false] at h
    obtain ⟨v', h1, h2⟩ := cell_sound hr h hb
    exact ⟨v', by simp [Instr.loadAt, Instr.sureAddr, loadVar, run_agg hg, h1], h2.three⟩

theorem bytesRow_inv : ∀ {vs : List Value} {l : List UInt8}, bytesOfRow vs = some l → ∃ ns : List Int, vs = ns.map (Value.int .u8) ∧ l = ns.map fun n => UInt8.ofNat n.toNat
  | [], l, h => by cases h; exact ⟨[], rfl, rfl⟩
  | v :: vs, l, h => by
    cases v
    case int k n =>
      cases k
      case u8 =>
        simp only [bytesOfRow] at h
        split at h
        · rename_i l' h'; cases h
          obtain ⟨ns, rfl, rfl⟩ := bytesRow_inv h'
          exact ⟨n :: ns, rfl, rfl⟩
        · cases h
      all_goals cases h
    all_goals cases h
theorem foldl_push : ∀ (ns : List Int) (s : ByteArray), ns.foldl (fun r n => r.push (UInt8.ofNat n.toNat)) s = ⟨s.data ++ (ns.map fun n => UInt8.ofNat n.toNat).toArray⟩
  | [], s => by cases s; simp
  | n :: ns, s => by
    simp only [List.foldl_cons, foldl_push ns]
    congr 1
    simp [ByteArray.push]
theorem b2s_sound {ρ : Rho} {H : Heap} (hr : RelH ρ H w) {b o n : Nat} {c' : Nat} {vs : List Value} {l : List UInt8} {L : Loc} {o' : Nat} (hb : ρ b = some L) (hrow : H.row b o n = some vs) (hl : bytesOfRow vs = some l) (ho : 0 < n → o' = o + L.shift) :
    (Conv.bytesToString (.slice (some ⟨L.blk, o', none⟩) n c')).run P w = .ok (.string ⟨l.toArray⟩) w := by
  obtain ⟨ns, rfl, rfl⟩ := bytesRow_inv hl
  clear hl
  obtain ⟨vs', h1, h2, h3⟩ := row_sound hr hb n o hrow
  have hvs : vs' = ns.map (Value.int .u8) := h1.eq_of fun a b ha hab => by
    obtain ⟨m, _, rfl⟩ := List.mem_map.1 ha
    exact V1.flat rfl hab
  subst hvs
  have hrun : (loadCells ⟨L.blk, o', none⟩ n).run P w = .ok (ns.map (Value.int .u8)).toArray w := by
    by_cases h0 : 0 < n
    · rw [ho h0]; exact run_row h2 h3
    · obtain rfl : n = 0 := by omega
      have : ns = [] := by simpa using h2
      subst this; rfl
  rw [run_bytesToString w _ n c' ns hrun, foldl_push]
  simp

theorem bound_sound {ρ : Rho} {d y n : Nat} {lo lo' : Option Value} {code : BoundsCode} (h : bound d lo = some n) (hl : ∀ v, lo = some v → ∃ v', lo' = some v' ∧ V3 ρ v v') (hn : lo = none → lo' = none) (hy : n ≤ y) :
    (bndS d y code lo').run P w = .ok n w := by
  cases lo with
  | none => rw [hn rfl]; cases h; rfl
  | some v =>
    obtain ⟨v', rfl, hv⟩ := hl v rfl
    obtain ⟨k, rfl⟩ := natOf_inv h hv
    simp only [bndS, Instr.sliceBound, asIntOf, Sem.run_bind, Sem.run_pure, Result.andThen_ok]
    rw [if_pos ⟨by omega, by omega⟩]
    simp
theorem opt_sound {ρ : Rho} {e : Env} {f : Operand → Value} (ha : ArgR ρ e f) {x : Option Operand} {y : Option Arg} (h : cOpt x = some y) :
    (∀ v, y.map (ev e) = some v → ∃ v', x.map f = some v' ∧ V3 ρ v v') ∧ (y.map (ev e) = none → x.map f = none) ∧ (y.isSome = x.isSome) := by
  cases x with
  | none => cases h; exact ⟨(fun v h => by cases h), (fun _ => rfl), rfl⟩
  | some x =>
    simp only [cOpt] at h
    split at h
    · rename_i a h1; cases h
      exact ⟨(fun v hv => by cases hv; exact ⟨_, rfl, ha _ _ h1⟩), (fun h => by cases h), rfl⟩
    · cases h
theorem sls_sound {ρ : Rho} {s : ByteArray} {lo hi lo' hi' : Option Value} {v : Value} {t : TypeId} (hu : P.underlying t = some .string) (h : slsV s lo hi = some v)
    (hl : ∀ v, lo = some v → ∃ v', lo' = some v' ∧ V3 ρ v v') (hln : lo = none → lo' = none) (hh : ∀ v, hi = some v → ∃ v', hi' = some v' ∧ V3 ρ v v') (hhn : hi = none → hi' = none) :
    (Instr.sliceAt t (.string s) lo' hi' none).run P w = .ok v w := by
  unfold slsV at h
  split at h
  · rename_i hn e1
    split at h
    · rename_i ln e2
      split at h
      · rename_i hc; cases h
        have r1 := bound_sound (P := P) (w := w) (d := s.size) (y := s.size) (code := .sliceAlen) e1 hh hhn hc.2
        have r2 := bound_sound (P := P) (w := w) (d := 0) (y := hn) (code := .sliceB) e2 hl hln hc.1
        unfold Instr.sliceAt
        rw [Sem.run_bind, run_und hu]
        simp only [Result.andThen_ok]
        unfold Instr.slice
        rw [Sem.run_bind, run_und hu]
        simp only [Result.andThen_ok, Option.isSome_none, Bool.false_eq_true, if_false, bounds_two, Sem.run_bind, r1, r2, Sem.run_pure]
      · cases h
    · cases h
  · cases h
theorem eszIs_inv {ρ : Rho} {H : Heap} (hr : RelH ρ H w) {b n : Nat} {L : Loc} (hb : ρ b = some L) (h : H.eszIs b n = true) : L.esz = n := by
  unfold Heap.eszIs at h
  cases hB : H.blk b with
  | none => rw [hB] at h; cases h
  | some B =>
    rw [hB] at h
    obtain ⟨_, _, _, _, _, h3, _⟩ := hr.blk b L B hb hB
    rw [h3]; simpa using h
theorem slv_sound {ρ : Rho} {H : Heap} (hr : RelH ρ H w) {esz : Nat} {x x' v : Value} {lo hi mx lo' hi' mx' : Option Value} {t el : TypeId} (hu : P.underlying t = some (.slice el)) (hz : szOf P el = some esz) (h : slvV H esz x lo hi mx = some v) (hx : V3 ρ x x')
    (hl : ∀ v, lo = some v → ∃ v', lo' = some v' ∧ V3 ρ v v') (hln : lo = none → lo' = none) (hh : ∀ v, hi = some v → ∃ v', hi' = some v' ∧ V3 ρ v v') (hhn : hi = none → hi' = none)
    (hm : ∀ v, mx = some v → ∃ v', mx' = some v' ∧ V3 ρ v v') (hmn : mx = none → mx' = none) :
    ∃ v', (Instr.sliceAt t x' lo' hi' mx').run P w = .ok v' w ∧ V3 ρ v v' := by
  unfold slvV at h
  split at h
  case h_2 => cases h
  rename_i a n c
  split at h
  case h_2 => cases h
  rename_i m0 e0
  split at h
  case h_2 => cases h
  rename_i hv e1
  split at h
  case h_2 => cases h
  rename_i lv e2
  split at h
  case isFalse => cases h
  rename_i hc
  obtain ⟨c1, c2, c3, c4⟩ := hc
  have key : ∃ a' c', x' = .slice a' n c' ∧ c / 2 ≤ c' ∧ (c % 2 = 1 → c' = c / 2) ∧ ∀ m, (mx = none → m = c') → (mx.isSome = true → m = m0) → V3 ρ v (.slice (if m = lv then a' else a'.map (·.add (lv * esz))) (hv - lv) (m - lv)) := by
    cases a with
    | none =>
      obtain ⟨rfl, rfl, rfl⟩ := hx.nil_inv
      simp only [Option.some.injEq] at h
      subst h
      refine ⟨none, 0, rfl, Nat.le_refl _, fun _ => rfl, fun m h1 h2 => ?_⟩
      have hm0 : m = 0 := by
        cases mx with
        | none => exact h1 rfl
        | some _ => have := h2 rfl; omega
      subst hm0
      obtain rfl : lv = 0 := by omega
      obtain rfl : hv = 0 := by omega
      exact ⟨rfl, rfl⟩
    | some ad =>
      obtain ⟨b, o, sp⟩ := ad
      cases sp with
      | some sp => cases h
      | none =>
        simp only at h
        split at h
        case isFalse => cases h
        rename_i hes
        cases h
        obtain ⟨L, o', c', h1, rfl, h2, h3, h4, h5, h6⟩ := hx.slice_inv
        refine ⟨_, c', rfl, h3, h4, fun m g1 g2 => ?_⟩
        have hmge : m0 ≤ m ∧ m ≤ c' ∧ ((if mx.isSome then 1 else c % 2) = 1 → m = m0) := by
          cases mx with
          | none =>
            obtain rfl := g1 rfl
            have e0' : m0 = c / 2 := by simpa [bound] using e0.symm
            refine ⟨by omega, by omega, fun q => ?_⟩
            have : c % 2 = 1 := by simpa using q
            rw [h4 this, e0']
          | some y => obtain rfl := g2 rfl; exact ⟨by omega, by omega, fun _ => rfl⟩
        have hx1 : (if mx.isSome then 1 else c % 2) ≤ 1 := by split <;> omega
        generalize hxe : (if mx.isSome then 1 else c % 2) = xx at hx1 hmge
        have hdiv : (2 * (m0 - lv) + xx) / 2 = m0 - lv := by omega
        have hmod : (2 * (m0 - lv) + xx) % 2 = xx := by omega
        have hbd : ∀ q, lv + q ≤ c' → o' + lv * esz + q * L.esz ≤ L.size := by
          intro q hq
          simp only [Bool.or_eq_true, beq_iff_eq] at hes
          rcases hes with hes | hes
          · subst hes
            have : q * L.esz ≤ c' * L.esz := Nat.mul_le_mul_right _ (by omega)
            omega
          · have := eszIs_inv hr h1 hes
            have h7 : (lv + q) * L.esz ≤ c' * L.esz := Nat.mul_le_mul_right _ hq
            rw [Nat.add_mul] at h7
            rw [← this]; omega
        by_cases hml : m = lv
        · rw [if_pos hml]
          refine ⟨L, o', m - lv, h1, rfl, rfl, ?_, ?_, ?_, ?_, ?_⟩
          · rw [hdiv]; omega
          · rw [hdiv]; omega
          · rw [hmod, hdiv]; intro q; have := hmge.2.2 q; omega
          · rw [hdiv]; intro q; omega
          · have : m - lv = 0 := by omega
            rw [this]
            have : o' ≤ o' + c' * L.esz := by omega
            omega
        · rw [if_neg hml]
          refine ⟨L, o' + lv * esz, m - lv, h1, rfl, by simp [add_at], ?_, ?_, ?_, ?_, ?_⟩
          · rw [hdiv]; omega
          · rw [hdiv]; omega
          · rw [hmod, hdiv]; intro q; have := hmge.2.2 q; omega
          · rw [hdiv]; intro q
            have := h5 (by omega)
            simp only; omega
          · exact hbd _ (by omega)
  obtain ⟨a', c', rfl, hcc, hex, hfin⟩ := key
  have hrun : ∃ m, (mx = none → m = c') ∧ (mx.isSome = true → m = m0) ∧ (Instr.sliceBounds true n c' lo' hi' mx').run P w = .ok (lv, hv, m) w := by
    cases mx with
    | none =>
      have e0' : m0 = c / 2 := by simpa [bound] using e0.symm
      rw [hmn rfl]
      refine ⟨c', fun _ => rfl, fun h => by (cases h), ?_⟩
      have r1 := bound_sound (P := P) (w := w) (d := n) (y := c') (code := .sliceAcap) e1 hh hhn (by omega)
      have r2 := bound_sound (P := P) (w := w) (d := 0) (y := hv) (code := .sliceB) e2 hl hln c1
      simp only [bounds_two, Sem.run_bind, if_true, r1, r2, Result.andThen_ok, Sem.run_pure]
    | some y =>
      obtain ⟨y', rfl, hy⟩ := hm y rfl
      have hih := c4 rfl
      cases hi with
      | none => cases hih
      | some z =>
        obtain ⟨z', rfl, hz'⟩ := hh z rfl
        refine ⟨m0, fun h => by (cases h), fun _ => rfl, ?_⟩
        have r0 := bound_sound (P := P) (w := w) (d := 0) (y := c') (code := .slice3Acap) (lo := some y) (lo' := some y') e0 (fun v hv => by cases hv; exact ⟨y', rfl, hy⟩) (fun h => by cases h) (by omega)
        have r1 := bound_sound (P := P) (w := w) (d := 0) (y := m0) (code := .slice3B) (lo := some z) (lo' := some z') e1 (fun v hv => by cases hv; exact ⟨z', rfl, hz'⟩) (fun h => by cases h) c2
        have r2 := bound_sound (P := P) (w := w) (d := 0) (y := hv) (code := .slice3C) e2 hl hln c1
        simp only [bndS] at r0 r1
        simp only [bounds_three, Sem.run_bind, if_true, r0, r1, r2, Result.andThen_ok, Sem.run_pure]
  obtain ⟨m, g1, g2, hrun⟩ := hrun
  refine ⟨_, ?_, hfin m g1 g2⟩
  unfold Instr.sliceAt
  rw [Sem.run_bind, run_und hu]
  simp only [Result.andThen_ok]
  unfold Instr.slice
  rw [Sem.run_bind, run_und hu]
  simp only [Result.andThen_ok, Sem.run_bind, hrun, run_sz hz, Sem.run_pure]
end
end Go.AM
end TextAmOp2
section TextAmOp3
/- AM: literals; then all operations that write nothing and make nothing. -/
namespace Go.AM
set_option linter.unusedVariables false
set_option linter.unusedSimpArgs false
section
variable {P : Program} {w : World}
theorem foldl_puts (off : Nat) : ∀ (vs : List Value) (k : Nat) (cs : Array Value), (vs.zipIdx k).foldl (fun cs (p : Value × Nat) => cs.setIfInBounds (off + p.2) p.1) cs = putsA cs (off + k) vs
  | [], _, _ => rfl
  | v :: vs, k, cs => by
    simp only [List.zipIdx_cons, List.foldl_cons, putsA]
    exact foldl_puts off vs (k + 1) _
theorem putsA_list (vs : List Value) (o : Nat) (c : Array Value) (h : o + vs.length ≤ c.size) : (putsA c o vs).toList = c.toList.take o ++ vs ++ c.toList.drop (o + vs.length) := by
  apply List.ext_getElem?
  intro i
  have hs : (c.toList.take o).length = o := by simp; omega
  rw [Array.getElem?_toList]
  by_cases h1 : i < o
  · rw [putsA_out vs o c i (.inl h1), List.append_assoc, List.getElem?_append_left (by omega), List.getElem?_take_of_lt h1, Array.getElem?_toList]
  · by_cases h2 : i < o + vs.length
    · obtain ⟨j, rfl⟩ : ∃ j, i = o + j := ⟨i - o, by omega⟩
      rw [putsA_in vs o c j h (by omega), List.append_assoc, List.getElem?_append_right (by omega), hs, List.getElem?_append_left (by omega)]
      congr 1; omega
    · rw [putsA_out vs o c i (.inr (by omega)), List.getElem?_append_right (by simp; omega), List.getElem?_drop, Array.getElem?_toList]
      congr 1; simp; omega
theorem fill_sound {ρ : Rho} {e : Env} {f : Operand → Value} (ha : ArgR ρ e f) {pl : Nat → Option (Nat × Nat)} : ∀ (parts : List (Nat × Operand)) {ps : List (Nat × Nat × Arg)} {cs r : List Value} {cs' : Array Value}, cParts pl parts = some ps →
    fillL cs (ps.map fun p => (p.1, p.2.1, ev e p.2.2)) = some r → All2 (V1 ρ) cs cs'.toList →
    ∃ r', Instr.fill pl cs' (parts.map fun p => (p.1, f p.2)) = some r' ∧ All2 (V1 ρ) r r'.toList
  | [], ps, cs, r, cs', hp, hf, hc => by
    cases hp
    simp only [List.map_nil, fillL, Option.some.injEq] at hf
    subst hf
    exact ⟨cs', rfl, hc⟩
  | (i, x) :: parts, ps, cs, r, cs', hp, hf, hc => by
    simp only [cParts] at hp
    split at hp
    case h_2 => cases hp
    rename_i o n a l e1 e2 e3
    cases hp
    simp only [List.map_cons, fillL] at hf
    split at hf
    case isFalse => cases hf
    rename_i hcond
    obtain ⟨g1, g2, hone⟩ := hcond
    have hv : All2 (V1 ρ) (ev e a).cells.toList (f x).cells.toList := (ha x a e2).cells hone
    have hl := hv.length
    have hcl := hc.length
    have hsz : (f x).cells.size = n := by rw [← Array.length_toList]; omega
    have hcs : cs'.size = cs.length := by rw [← Array.length_toList]; omega
    simp only [List.map_cons, Instr.fill, e1]
    have hno : ¬ ((decide ((f x).cells.size ≠ n) || decide (o + (f x).cells.size > cs'.size)) = true) := by simp [hsz]; omega
    rw [if_neg hno]
    have hfold : ((f x).cells.zipIdx.foldl (fun cs (p : Value × Nat) => cs.setIfInBounds (o + p.2) p.1) cs') = putsA cs' o (f x).cells.toList := by
      rw [← Array.foldl_toList]
      have := foldl_puts o (f x).cells.toList 0 cs'
      simpa using this
    refine fill_sound ha parts (cs := cs.take o ++ (ev e a).cells.toList ++ cs.drop (o + n)) e3 hf ?_
    have h3 := putsA_list (f x).cells.toList o cs' (by simp; omega)
    have h4 : (Array.foldl (fun cs x_1 => match x_1 with | (c, j) => cs.setIfInBounds (o + j) c) cs' (f x).cells.zipIdx).toList = cs'.toList.take o ++ (f x).cells.toList ++ cs'.toList.drop (o + n) := by
      rw [← hsz]
      rw [Array.length_toList] at h3
      rw [← h3, ← hfold]
    rw [h4]
    exact (((hc.take o).append hv).append (hc.drop (o + n)))
theorem places_sound : ∀ (fs : List Field) {l : List (Nat × Nat)}, places P fs = some l → (fs.mapM fun f => (do pure (f.offset, ← sizeOf f.type) : Sem (Nat × Nat))).run P w = .ok l w
  | [], l, h => by cases h; simp
  | f :: fs, l, h => by
    simp only [places] at h
    split at h
    · rename_i n l' e1 e2; cases h
      have ih := places_sound fs e2
      simp only [List.mapM_cons, Sem.run_bind, run_sz e1, Result.andThen_ok, Sem.run_pure] at ih ⊢
      rw [ih]; simp
    · cases h
theorem build_sound {ρ : Rho} {e : Env} {f : Operand → Value} (ha : ArgR ρ e f) {t : TypeId} {parts : Array (Nat × Operand)} {z : List Value} {ps : List (Nat × Nat × Arg)} {r : List Value} {pl : Nat → Option (Nat × Nat)} (hz : zeroOf P t = some z)
    (hpl : (∃ fs l, P.underlying t = some (.struct fs) ∧ places P fs.toList = some l ∧ pl = fun (i : Nat) => l[i]?) ∨ (∃ m el n, P.underlying t = some (.array m el) ∧ szOf P el = some n ∧ pl = fun i => some (i * n, n)))
    (hp : cParts pl parts.toList = some ps) (hf : fillL z (ps.map fun p => (p.1, p.2.1, ev e p.2.2)) = some r) :
    ∃ r', (Instr.build t (parts.map fun (i, x) => (i, f x))).run P w = .ok (.agg r') w ∧ All2 (V1 ρ) r r'.toList := by
  obtain ⟨inf, v, h1, h2, h3, h4, h5, h6⟩ := zero_inv hz
  have hc : All2 (V1 ρ) z v.cells.toList := by rw [h3]; exact All2.refl fun a ha => V1.of_flat (List.all_eq_true.1 h5 a ha)
  obtain ⟨r', g1, g2⟩ := fill_sound ha parts.toList hp hf hc
  refine ⟨r', ?_, g2⟩
  have hm : (parts.map fun (i, x) => (i, f x)).toList = parts.toList.map fun p => (p.1, f p.2) := by simp
  unfold Instr.build
  simp only [Sem.run_bind, run_zero h1 h2, Result.andThen_ok]
  rcases hpl with ⟨fs, l, q1, q2, rfl⟩ | ⟨m, el, n, q1, q2, rfl⟩
  · have hpls := places_sound (P := P) (w := w) fs.toList q2
    simp only [run_und q1, Result.andThen_ok, Sem.run_bind, Array.mapM_eq_mapM_toList, Sem.run_map, hpls, hm]
    have e : (fun (x : Nat) => l.toArray[x]?) = fun (i : Nat) => l[i]? := by funext i; simp
    rw [e, g1]; simp
  · simp only [run_und q1, Result.andThen_ok, Sem.run_bind, run_sz q2, hm]
    rw [g1]; simp

theorem rd_sound {C : CallF} {ρ : Rho} {e : Env} {f : Operand → Value} {H H' : Heap} {o : Oper} {i : Ins} {v : Value} (hc : cOp P o.op = some i) (k1 : isAl i = false) (k2 : isEff i = false) (hs : step P C i e H = some (v, H')) (ha : ArgR ρ e f) (hr : RelH ρ H w) :
    H' = H ∧ ∃ v', (execOp f o).run P w = .ok (.value v') w ∧ V3 ρ v v' := by
  obtain ⟨dst, op, ty, pos, after, guard⟩ := o
  simp only at hc
  cases op
  case move x =>
    simp only [cOp, Option.map_eq_some_iff] at hc
    obtain ⟨a, h1, rfl⟩ := hc
    cases hs
    exact ⟨rfl, _, rfl, ha x a h1⟩
  case assign x =>
    simp only [cOp, Option.map_eq_some_iff] at hc
    obtain ⟨a, h1, rfl⟩ := hc
    cases hs
    exact ⟨rfl, _, rfl, ha x a h1⟩
  case pick c a b =>
    simp only [cOp] at hc
    split at hc <;> cases hc
    rename_i c' a' b' h1 h2 h3
    have hcv := ha c c' h1
    simp only [step] at hs
    split at hs
    · rename_i hb; cases hs
      rw [hb] at hcv
      refine ⟨rfl, f a, ?_, ha a a' h2⟩
      simp [execOp, hcv.bool_inv, asBool]
    · rename_i hb; cases hs
      rw [hb] at hcv
      refine ⟨rfl, f b, ?_, ha b b' h3⟩
      simp [execOp, hcv.bool_inv, asBool]
    · cases hs
  case load t a =>
    simp only [cOp] at hc
    split at hc <;> cases hc
    · rename_i a' n h1 h2 h3
      simp only [step] at hs
      have hav := ha a a' h1
      split at hs
      · rename_i b o hb
        split at hs
        · rename_i vs hrow; cases hs
          rw [hb] at hav
          obtain ⟨L, g1, g2⟩ := hav.ptr_inv
          obtain ⟨v', r1, r2⟩ := ld_sound (P := P) hr (t := t) (o := o) g1 h3 h2 (v := .agg vs.toArray) (by simp [hrow])
          exact ⟨rfl, v', by simp [execOp, g2, r1], r2⟩
        · cases hs
      · cases hs
    · rename_i a' n h1 h2 h3
      simp only [step] at hs
      have hav := ha a a' h1
      split at hs
      · rename_i b o hb
        split at hs
        · rename_i u hrow; cases hs
          rw [hb] at hav
          obtain ⟨L, g1, g2⟩ := hav.ptr_inv
          obtain ⟨v', r1, r2⟩ := ld_sound (P := P) hr (t := t) (o := o) g1 h3 h2 (v := v) (by simp [hrow])
          exact ⟨rfl, v', by simp [execOp, g2, r1], r2⟩
        · cases hs
      · cases hs
  case nilCheck x =>
    simp only [cOp, Option.map_eq_some_iff] at hc
    obtain ⟨a, h1, rfl⟩ := hc
    have hav := ha x a h1
    simp only [step] at hs
    split at hs
    · rename_i ad hb; cases hs
      rw [hb] at hav
      obtain ⟨L, q1, q2, q3⟩ := hav
      refine ⟨rfl, f x, by rw [show f x = _ from q3]; simp [execOp, q3], ?_⟩
      exact ⟨L, q1, q2, q3⟩
    · cases hs
  case binOp bo t x y ty2 =>
    simp only [cOp] at hc
    split at hc <;> try (cases hc; done)
    rename_i x' y' h1 h2
    have plain : i = .bin bo t x' y' → H' = H ∧ ∃ v', (execOp f ⟨dst, .binOp bo t x y ty2, ty, pos, after, guard⟩).run P w = .ok (.value v') w ∧ V3 ρ v v' := by
      intro e; subst e
      simp only [step] at hs
      split at hs
      · rename_i u hb; cases hs
        obtain ⟨v', r1, r2⟩ := bin_sound (P := P) (w := w) (x := x) (y := y) hb (ha x x' h1) (ha y y' h2)
        exact ⟨rfl, v', by simp only [execOp, Sem.run_bind] at r1 ⊢; rw [r1]; rfl, r2⟩
      · cases hs
    have agg : ∀ neg ss, isStruct P t = true → P.eqGuardType P.depth t = false → eqT P 8 t = some ss → bo = (if neg then .neq else .eql) → i = .eqa neg ss x' y' → H' = H ∧ ∃ v', (execOp f ⟨dst, .binOp bo t x y ty2, ty, pos, after, guard⟩).run P w = .ok (.value v') w ∧ V3 ρ v v' := by
      intro neg ss e1 e2 e3 e4 e5
      subst e5 e4
      simp only [step] at hs
      split at hs
      · rename_i xs ys hbx hby
        split at hs
        · rename_i b hb; cases hs
          have hxv := ha x x' h1
          have hyv := ha y y' h2
          rw [hbx] at hxv
          rw [hby] at hyv
          have r1 := eqa_sound (P := P) (w := w) (x := x) (y := y) (neg := neg) e1 e2 e3 hxv hyv hb
          exact ⟨rfl, .bool (b != neg), by simp only [execOp, Sem.run_bind] at r1 ⊢; rw [r1]; rfl, (V1.of_flat (v := .bool _) rfl).three⟩
        · cases hs
      · cases hs
    unfold cBin at hc
    split at hc
    · rename_i hst
      split at hc
      · split at hc
        · cases hc
        · rename_i hg
          split at hc
          · rename_i ss hss; cases hc; exact agg false ss hst (by simpa using hg) hss rfl rfl
          · cases hc
      · split at hc
        · cases hc
        · rename_i hg
          split at hc
          · rename_i ss hss; cases hc; exact agg true ss hst (by simpa using hg) hss rfl rfl
          · cases hc
      · cases hc
    · cases hc; exact plain rfl
  case unOp uo t x =>
    simp only [cOp, Option.map_eq_some_iff] at hc
    obtain ⟨a, h1, rfl⟩ := hc
    have hav := ha x a h1
    simp only [step] at hs
    split at hs
    · rename_i hf
      split at hs
      · rename_i u hb
        cases hs
        obtain ⟨hb1, hb2⟩ := flatRes_inv hb
        have := hav.flat (flat_of2 (flat2_of1 hf))
        exact ⟨rfl, v, by simp [execOp, this, pv_run _ hb1], (V1.of_flat hb2).three⟩
      · cases hs
    · cases hs
  case convert s d x =>
    simp only [cOp] at hc
    split at hc
    · rename_i k0 k x' h1 h2 h3; cases hc
      have hav := ha x x' h3
      simp only [step] at hs
      split at hs
      · rename_i kk n hb; cases hs
        rw [hb] at hav
        refine ⟨rfl, .int k (k.wrap n), ?_, (V1.of_flat (v := .int k _) rfl).three⟩
        simp [execOp, hav.int_inv, convert, run_und h1, run_und h2, Conv.intToInt]
      · cases hs
    · split at hc
      · cases hc; simp [isAl] at k1
      · cases hc
    · rename_i el x' h1 h2 h3
      split at hc
      · rename_i h4; cases hc
        have hav := ha x x' h3
        simp only [step] at hs
        split at hs
        · rename_i n c hb; cases hs
          rw [hb] at hav
          obtain ⟨rfl, rfl, hx⟩ := hav.nil_inv
          refine ⟨rfl, .string .empty, ?_, (V1.of_flat (v := .string _) rfl).three⟩
          simp [execOp, hx, convert, run_und h1, run_und h2, run_und h4, Conv.bytesToString]
        · rename_i b o n c hb
          split at hs
          · rename_i vs hrow
            split at hs
            · rename_i l hl; cases hs
              rw [hb] at hav
              obtain ⟨L, o', c', q1, q2, q3, q4, q5, q6, q7⟩ := hav.slice_inv
              have := b2s_sound (P := P) hr (c' := c') q1 hrow hl (o' := o') (fun hn => q6 (by omega))
              refine ⟨rfl, _, ?_, (V1.of_flat (v := .string _) rfl).three⟩
              simp only [execOp, Sem.run_bind, q2, convert, run_und h1, run_und h2, Result.andThen_ok]
              simp only [run_und h4, Result.andThen_ok, Sem.run_bind, this, Sem.run_pure]
            · cases hs
          · cases hs
        · cases hs
      · cases hc
    · cases hc
  case makeFunc fn first cap =>
    cases fn <;> simp only [cOp] at hc <;> try (cases hc)
    rename_i fid
    split at hc
    · rename_i hz
      simp only [Option.map_eq_some_iff] at hc
      obtain ⟨ys, h1, rfl⟩ := hc
      simp only [step] at hs
      split at hs
      · rename_i hv0; cases hs
        have hz2 := args_sound ha h1
        refine ⟨rfl, .func (.func fid) #[] (cap.map f), ?_, ?_⟩
        · have : first.map f = #[] := by rw [arr_nil hz]; simp
          simp [execOp, Instr.makeFunc, this]
        · refine ⟨⟨fid, rfl⟩, rfl, _, rfl, ?_⟩
          simp only [Array.toList_map]
          exact capt_sound hz2 hv0
      · cases hs
    · cases hc
  case slice t x lo hi mx =>
    simp only [cOp] at hc
    split at hc <;> try (cases hc)
    · rename_i x' lo' hi' h0 h1 h2 h3 h4
      obtain ⟨l1, l2, _⟩ := opt_sound ha h2
      obtain ⟨g1, g2, _⟩ := opt_sound ha h3
      have hmn : mx = none := by
        cases mx with
        | none => rfl
        | some y => simp only [cOpt] at h4; split at h4 <;> cases h4
      subst hmn
      have hav := ha x x' h1
      simp only [step] at hs
      split at hs
      · rename_i s hb
        split at hs
        · rename_i u hv; cases hs
          rw [hb] at hav
          have := sls_sound (P := P) (w := w) h0 hv l1 l2 g1 g2
          refine ⟨rfl, v, by simp [execOp, hav.string_inv, this], ?_⟩
          unfold slsV at hv
          split at hv
          · split at hv
            · split at hv
              · cases hv; exact (V1.of_flat (v := .string _) rfl).three
              · cases hv
            · cases hv
          · cases hv
        · cases hs
      · cases hs
    · rename_i el x' lo' hi' mx' h0 h1 h2 h3 h4
      split at hc <;> cases hc
      rename_i n h5
      obtain ⟨l1, l2, _⟩ := opt_sound ha h2
      obtain ⟨g1, g2, _⟩ := opt_sound ha h3
      obtain ⟨m1, m2, _⟩ := opt_sound ha h4
      simp only [step] at hs
      split at hs
      · rename_i u hv; cases hs
        obtain ⟨v', r1, r2⟩ := slv_sound (P := P) hr h0 h5 hv (ha x x' h1) l1 l2 g1 g2 m1 m2
        exact ⟨rfl, v', by simp [execOp, r1], r2⟩
      · cases hs
  case build t parts =>
    simp only [cOp] at hc
    have fin : ∀ (pl : Nat → Option (Nat × Nat)) (z : List Value), zeroOf P t = some z → ((∃ fs l, P.underlying t = some (.struct fs) ∧ places P fs.toList = some l ∧ pl = fun (i : Nat) => l[i]?) ∨ (∃ m el n, P.underlying t = some (.array m el) ∧ szOf P el = some n ∧ pl = fun i => some (i * n, n))) →
        (cParts pl parts.toList).map (Ins.build z) = some i → H' = H ∧ ∃ v', (execOp f ⟨dst, .build t parts, ty, pos, after, guard⟩).run P w = .ok (.value v') w ∧ V3 ρ v v' := by
      intro pl z hz hpl hm
      simp only [Option.map_eq_some_iff] at hm
      obtain ⟨ps, h1, rfl⟩ := hm
      simp only [step] at hs
      split at hs
      · rename_i r hf; cases hs
        obtain ⟨r', g1, g2⟩ := build_sound (P := P) (w := w) ha hz hpl h1 hf
        exact ⟨rfl, .agg r', by simp only [execOp, Sem.run_bind, g1]; rfl, ⟨r', rfl, by simpa using g2⟩⟩
      · cases hs
    split at hc
    · rename_i z fs h1 h2
      split at hc
      · rename_i l h3; exact fin _ z h1 (.inl ⟨fs, l, h2, h3, rfl⟩) hc
      · cases hc
    · rename_i z m el h1 h2
      split at hc
      · rename_i n h3; exact fin _ z h1 (.inr ⟨m, el, n, h2, h3, rfl⟩) hc
      · cases hc
    · cases hc
  case fieldAddr t x fi =>
    simp only [cOp] at hc
    split at hc <;> try (cases hc)
    rename_i fs x' h1 h2
    split at hc <;> try (cases hc)
    rename_i fd h3
    split at hc <;> try (cases hc)
    rename_i n h4
    split at hc <;> try (cases hc)
    rename_i h5
    have hav := ha x x' h2
    simp only [step] at hs
    split at hs
    · rename_i b o hb; cases hs
      rw [hb] at hav
      obtain ⟨L, q1, q2⟩ := hav.ptr_inv
      refine ⟨rfl, .pointer (some ⟨L.blk, o + fd.offset + L.shift, none⟩), ?_, ⟨L, q1, rfl, rfl⟩⟩
      simp only [execOp, Sem.run_bind, q2, Instr.fieldAt, run_und h1, Result.andThen_ok, h3, Instr.sureAddr, Sem.run_pure, fieldPlace, run_sz h4]
      rw [if_neg h5]
      simp only [Sem.run_pure, Result.andThen_ok, add_at]
      rw [show o + L.shift + fd.offset = o + fd.offset + L.shift by omega]
    · cases hs
  case indexAddr t x ix =>
    simp only [cOp] at hc
    split at hc <;> try (cases hc)
    · rename_i el x' i' h1 h2 h3
      split at hc <;> cases hc
      rename_i n h4
      have hav := ha x x' h2
      have hiv := ha ix i' h3
      simp only [step] at hs
      split at hs
      · rename_i b o m c k hb hn
        split at hs
        · rename_i hlt; cases hs
          rw [hb] at hav
          obtain ⟨L, o', c', q1, q2, q3, q4, q5, q6, q7⟩ := hav.slice_inv
          obtain ⟨kk, q8⟩ := natOf_inv hn hiv
          have ho := q6 (by omega)
          refine ⟨rfl, .pointer (some ⟨L.blk, o + k * n + L.shift, none⟩), ?_, ⟨L, q1, rfl, rfl⟩⟩
          simp only [execOp, Sem.run_bind, q2, q8, Instr.indexAt, asIntOf, Sem.run_pure, run_und h1, Result.andThen_ok]
          rw [if_pos ⟨by omega, by omega⟩]
          simp only [run_sz h4, Sem.run_bind, Result.andThen_ok, Sem.run_pure, add_at, Int.toNat_natCast]
          rw [show o' + k * n = o + k * n + L.shift by omega]
        · cases hs
      · cases hs
    · rename_i len el x' i' h1 h2 h3
      split at hc <;> cases hc
      rename_i n h4
      have hav := ha x x' h2
      have hiv := ha ix i' h3
      simp only [step] at hs
      split at hs
      · rename_i b o k hb hn
        split at hs
        · rename_i hlt; cases hs
          rw [hb] at hav
          obtain ⟨L, q1, q2⟩ := hav.ptr_inv
          obtain ⟨kk, q8⟩ := natOf_inv hn hiv
          refine ⟨rfl, .pointer (some ⟨L.blk, o + k * n + L.shift, none⟩), ?_, ⟨L, q1, rfl, rfl⟩⟩
          simp only [execOp, Sem.run_bind, q2, q8, Instr.indexAt, asIntOf, Sem.run_pure, run_und h1, Result.andThen_ok, Instr.sureAddr]
          rw [if_pos ⟨by omega, by omega⟩]
          simp only [run_sz h4, Sem.run_bind, Result.andThen_ok, Sem.run_pure, add_at, Int.toNat_natCast]
          rw [show o + L.shift + k * n = o + k * n + L.shift by omega]
        · cases hs
      · cases hs
  case field t x fi =>
    simp only [cOp] at hc
    split at hc <;> try (cases hc)
    rename_i fs x' h1 h2
    split at hc <;> try (cases hc)
    rename_i fd h3
    split at hc <;> cases hc
    rename_i n g h4 h5
    have hav := ha x x' h2
    simp only [step] at hs
    split at hs
    · rename_i cs hb
      split at hs
      · rename_i u hp; cases hs
        rw [hb] at hav
        obtain ⟨cs', q1, q2⟩ := hav.agg_inv
        obtain ⟨v', r1, r2⟩ := part_sound (P := P) (w := w) h4 h5 q2 hp
        exact ⟨rfl, v', by simp [execOp, q1, Instr.field, run_und h1, h3, asAgg, r1], r2⟩
      · cases hs
    · cases hs
  case index t x ix =>
    simp only [cOp] at hc
    split at hc <;> try (cases hc)
    · rename_i len el x' i' h1 h2 h3
      split at hc <;> cases hc
      rename_i n g h4 h5
      have hav := ha x x' h2
      have hiv := ha ix i' h3
      simp only [step] at hs
      split at hs
      · rename_i cs k hb hn
        split at hs
        · rename_i hlt
          split at hs
          · rename_i u hp; cases hs
            rw [hb] at hav
            obtain ⟨cs', q1, q2⟩ := hav.agg_inv
            obtain ⟨kk, q8⟩ := natOf_inv hn hiv
            obtain ⟨v', r1, r2⟩ := part_sound (P := P) (w := w) h4 h5 q2 hp
            refine ⟨rfl, v', ?_, r2⟩
            simp only [execOp, Sem.run_bind, q1, q8, Instr.index, asIntOf, Sem.run_pure, run_und h1, Result.andThen_ok]
            rw [if_pos ⟨by omega, by omega⟩]
            simp only [Sem.run_bind, run_sz h4, Result.andThen_ok, Int.toNat_natCast, r1, Sem.run_pure]
          · cases hs
        · cases hs
      · cases hs
    · rename_i x' i' h1 h2 h3
      have hav := ha x x' h2
      have hiv := ha ix i' h3
      simp only [step] at hs
      split at hs
      · rename_i s k hb hn
        split at hs
        · rename_i bt hget; cases hs
          rw [hb] at hav
          obtain ⟨kk, q8⟩ := natOf_inv hn hiv
          refine ⟨rfl, .int .u8 (bt.toNat : Int), ?_, (V1.of_flat (v := .int .u8 _) rfl).three⟩
          have hget' : s[k]? = some bt := by
            rw [Array.getElem?_toList] at hget
            obtain ⟨hk, he⟩ := Array.getElem?_eq_some_iff.1 hget
            rw [getElem?_pos s k hk]
            exact congrArg some he
          simp only [execOp, Sem.run_bind, hav.string_inv, q8, Instr.index, asIntOf, Sem.run_pure, run_und h1, Result.andThen_ok]
          rw [if_pos (by omega)]
          simp [hget']
        · cases hs
      · cases hs
  case extract x ix =>
    simp only [cOp, Option.map_eq_some_iff] at hc
    obtain ⟨a, h1, rfl⟩ := hc
    have hav := ha x a h1
    simp only [step] at hs
    split at hs
    · rename_i vs hb
      split at hs
      · rename_i u hg; cases hs
        rw [hb] at hav
        obtain ⟨vs', q1, q2⟩ := hav.tuple_inv
        obtain ⟨v', r1, r2⟩ := q2.get hg
        have r1' : vs'[ix]? = some v' := by simpa using r1
        exact ⟨rfl, v', by simp [execOp, q1, Instr.extract, r1'], r2.three⟩
      · cases hs
    · cases hs
  case call c =>
    obtain ⟨callee, args, argTypes⟩ := c
    simp only [cOp] at hc
    cases callee
    case value g =>
      cases g <;> simp at hc <;> obtain ⟨_, _, rfl⟩ := hc <;> simp [isEff] at k2
    case invoke => cases hc
    case builtin b =>
      simp only at hc
      split at hc <;> try (cases hc)
      rename_i xs h1
      have hxs := args_sound ha h1
      have hlen : args.size = xs.length := by have := cArgs_get h1; rw [← Array.length_toList]; exact this
      have sem : ∀ (v' : Value), (builtin b argTypes ty (args.map fun | .const _ => true | _ => false) (args.map f)).run P w = .ok (.value v') w →
          (execOp f ⟨dst, .call ⟨.builtin b, args, argTypes⟩, ty, pos, after, guard⟩).run P w = .ok (.value v') w := by
        intro v' h
        simp only [execOp, resolve, Sem.run_bind, Sem.run_pure, Result.andThen_ok, invoke]
        exact h
      have htl : ∀ tl, argTypes.toList = tl → argTypes = tl.toArray := fun tl h => by rw [← h]
      have two : ∀ x y, xs = [x, y] → ∃ x' y', args.map f = #[x', y'] ∧ V3 ρ (ev e x) x' ∧ V3 ρ (ev e y) y' := by
        intro x y hx
        subst hx
        obtain ⟨x', l, q1, q2, q3⟩ := hxs.cons_left
        obtain ⟨y', l', rfl, q5, q6⟩ := q3.cons_left
        obtain rfl := q6.nil_left
        exact ⟨x', y', by apply Array.ext'; simpa using q1, q2, q5⟩
      have one : ∀ x, xs = [x] → ∃ x', args.map f = #[x'] ∧ V3 ρ (ev e x) x' := by
        intro x hx
        subst hx
        obtain ⟨x', l, q1, q2, q3⟩ := hxs.cons_left
        obtain rfl := q3.nil_left
        exact ⟨x', by apply Array.ext'; simpa using q1, q2⟩
      cases b <;> simp only [cBuiltin] at hc <;> try (cases hc; done)
      case append => unfold cApp at hc; repeat' split at hc
                     all_goals first | (cases hc; done) | (cases hc; simp [isEff] at k2; done)
      case copy => unfold cCopy at hc; repeat' split at hc
                   all_goals first | (cases hc; done) | (cases hc; simp [isEff] at k2; done)
      case clear =>
        unfold cClear at hc; repeat' split at hc
        all_goals first | (cases hc; done) | (simp only [Option.map_eq_some_iff] at hc; obtain ⟨_, _, rfl⟩ := hc; simp [isEff] at k2; done)
      case len =>
        unfold cLen at hc
        split at hc
        · rename_i t x h2
          obtain ⟨x', h3, h4⟩ := one x rfl
          have hty := htl _ h2
          split at hc <;> cases hc
          · rename_i h5
            simp only [step] at hs
            split at hs
            · rename_i s hv; cases hs
              refine ⟨rfl, .int .i64 (s.size : Int), sem _ ?_, (V1.of_flat (v := .int .i64 _) rfl).three⟩
              rw [hv] at h4; rw [h3, hty, h4.string_inv]; simp [builtin, Builtin.len_, run_und h5, goInt]
            · cases hs
          · rename_i el h5
            simp only [step] at hs
            split at hs
            · rename_i a n c hv; cases hs
              refine ⟨rfl, .int .i64 (n : Int), sem _ ?_, (V1.of_flat (v := .int .i64 _) rfl).three⟩
              rw [hv] at h4; rw [h3, hty]
              cases a with
              | none => obtain ⟨rfl, rfl, q⟩ := h4.nil_inv; rw [q]; simp [builtin, Builtin.len_, run_und h5, goInt]
              | some ad => obtain ⟨L, o', c', _, _, q, _⟩ := h4; rw [q]; simp [builtin, Builtin.len_, run_und h5, goInt]
            · cases hs
          · rename_i n el h5
            simp only [step] at hs
            cases hs
            refine ⟨rfl, .int .i64 (n : Int), sem _ ?_, (V1.of_flat (v := .int .i64 _) rfl).three⟩
            rw [h3, hty]; simp [builtin, Builtin.len_, run_und h5, goInt]
        · cases hc
      case cap =>
        unfold cCap at hc
        split at hc
        · rename_i t x h2
          obtain ⟨x', h3, h4⟩ := one x rfl
          have hty := htl _ h2
          split at hc <;> cases hc
          rename_i el h5
          simp only [step] at hs
          split at hs
          · rename_i a n c hv
            rw [hv] at h4
            cases a with
            | none =>
              obtain ⟨rfl, rfl, q⟩ := h4.nil_inv
              rw [if_pos rfl] at hs; cases hs
              refine ⟨rfl, .int .i64 0, sem _ ?_, (V1.of_flat (v := .int .i64 _) rfl).three⟩
              rw [h3, hty, q]; simp [builtin, Builtin.cap_, run_und h5, goInt]
            | some ad =>
              obtain ⟨L, o', c', _, _, q, q1, q2, q3, q4⟩ := h4
              rw [if_neg (by simp)] at hs
              · split at hs
                · rename_i hodd; cases hs
                  refine ⟨rfl, .int .i64 ((c / 2 : Nat) : Int), sem _ ?_, (V1.of_flat (v := .int .i64 _) rfl).three⟩
                  rw [h3, hty, q, q3 hodd]; simp [builtin, Builtin.cap_, run_und h5, goInt]
                · cases hs
          · cases hs
        · cases hc
      case min =>
        unfold cMM at hc
        split at hc
        · rename_i x y; cases hc
          obtain ⟨x', y', h3, h4, h5⟩ := two x y rfl
          simp only [step] at hs
          split at hs
          · rename_i k a k' b h6 h7; cases hs
            rw [h6] at h4; rw [h7] at h5
            refine ⟨rfl, _, sem _ ?_, (V1.of_flat (v := .int k _) rfl).three⟩
            rw [h3, h4.int_inv, h5.int_inv]; simp [builtin, Builtin.min_, Builtin.min2]
          · cases hs
        · cases hc
      case max =>
        unfold cMM at hc
        split at hc
        · rename_i x y; cases hc
          obtain ⟨x', y', h3, h4, h5⟩ := two x y rfl
          simp only [step] at hs
          split at hs
          · rename_i k a k' b h6 h7; cases hs
            rw [h6] at h4; rw [h7] at h5
            refine ⟨rfl, _, sem _ ?_, (V1.of_flat (v := .int k _) rfl).three⟩
            rw [h3, h4.int_inv, h5.int_inv]; simp [builtin, Builtin.max_, Builtin.max2]
          · cases hs
        · cases hc
  all_goals first
    | (simp only [cOp] at hc; cases hc; done)
    | (simp only [cOp, Option.map_eq_some_iff] at hc; obtain ⟨_, _, rfl⟩ := hc; simp [isAl] at k1; done)
    | (simp only [cOp] at hc; repeat' split at hc
       all_goals first | (cases hc; done) | (cases hc; simp [isAl, isEff] at k1 k2; done) | (simp only [Option.map_eq_some_iff] at hc; obtain ⟨_, _, rfl⟩ := hc; simp [isAl, isEff] at k1 k2; done))
    | trace_state
end
end Go.AM
end TextAmOp3
section TextAmOp4
/- AM: operations that make one block. -/
namespace Go.AM
set_option linter.unusedVariables false
set_option linter.unusedSimpArgs false
section
variable {P : Program} {w : World}
/-- What an operation that makes a block leaves. -/
structure Made (P : Program) (w : World) (ρ : Rho) (s : Sem Next) (g : Nat → Value) (B : Blk) (v' : Value) (w' : World) (L : Loc) (c : Array Value) (t : TypeId) (fr : Nat × Nat) : Prop where
  run : s.run P w = .ok (.value v') w'
  heap : w'.heap = w.heap.push (.cells c t fr)
  os : w'.os = w.os
  tape : w'.tape = w.tape
  output : w'.output = w.output
  blk : L.blk = w.heap.size
  size : c.size = L.size
  esz : L.esz = B.esz
  fr : fr.2 ≤ fr.1 ∨ c.size ≤ fr.1
  cells : ∀ o v, B.at_ o = some v → ∃ v', c[o + L.shift]? = some v' ∧ V1 ρ v v'
  val : ∀ (ρ' : Rho) b, ρ' b = some L → V3 ρ' (g b) v'
theorem row_cells {ρ : Rho} {vs : List Value} {c : Array Value} {esz : Nat} (h : All2 (V1 ρ) vs c.toList) : ∀ o v, (rowBlk esz vs).at_ o = some v → ∃ v', c[o + 0]? = some v' ∧ V1 ρ v v' := by
  intro o v hv
  obtain ⟨v', h1, h2⟩ := h.get (show vs[o]? = some v from hv)
  exact ⟨v', by simpa using h1, h2⟩
theorem rep_length (z : List Value) : ∀ n, (rep z n).length = n * z.length
  | 0 => by simp [rep]
  | n + 1 => by simp [rep, rep_length z n, Nat.add_mul]; omega
theorem rep_get (z : List Value) : ∀ (n i : Nat), i < n * z.length → (rep z n)[i]? = z[i % z.length]?
  | 0, i, h => by simp at h
  | n + 1, i, h => by
    simp only [rep]
    have hz : 0 < z.length := by
      rcases Nat.eq_zero_or_pos z.length with h0 | h0
      · rw [h0] at h; simp at h
      · exact h0
    by_cases h1 : i < z.length
    · rw [List.getElem?_append_left h1, Nat.mod_eq_of_lt h1]
    · rw [List.getElem?_append_right (by omega), rep_get z n (i - z.length) (by rw [Nat.add_mul] at h; omega)]
      congr 1
      rw [Nat.mod_eq_sub_mod (a := i) (by omega)]
theorem rep_range (z : List Value) (za : Array Value) (hz : za.toList = z) (n : Nat) : ((Array.range (n * z.length)).map (fun i => za[i % za.size]!)).toList = rep z n := by
  subst hz
  apply List.ext_getElem?
  intro i
  have hs : za.size = za.toList.length := by rw [Array.length_toList]
  by_cases h : i < n * za.toList.length
  · rw [rep_get za.toList n i h]
    have hz0 : 0 < za.toList.length := by
      rcases Nat.eq_zero_or_pos za.toList.length with h0 | h0
      · rw [h0] at h; simp at h
      · exact h0
    have hm : i % za.toList.length < za.toList.length := Nat.mod_lt _ hz0
    simp only [Array.getElem?_toList, Array.getElem?_map, hs]
    rw [Array.getElem?_range, if_pos h]
    simp only [Option.map_some]
    rw [getElem!_pos za (i % za.toList.length) (by omega), getElem?_pos za _ (by omega)]
  · rw [List.getElem?_eq_none (by simpa using h), List.getElem?_eq_none (by rw [rep_length]; omega)]
theorem fill_length : ∀ (ps : List (Nat × Nat × Value)) (cs : List Value) {r : List Value}, fillL cs ps = some r → r.length = cs.length
  | [], cs, r, h => by simp only [fillL, Option.some.injEq] at h; rw [h]
  | (o, n, v) :: ps, cs, r, h => by
    simp only [fillL] at h
    split at h
    · rename_i hc
      rw [fill_length ps _ h]
      have := hc.1
      simp only [List.length_append, List.length_take, List.length_drop]; omega
    · cases h
theorem al_sound {ρ : Rho} {e : Env} {f : Operand → Value} {o : Oper} {i : Ins} {g : Nat → Value} {B : Blk} (hc : cOp P o.op = some i) (h : alc i e = some (g, B)) (ha : ArgR ρ e f) :
    B.ro = false ∧ ∃ v' w' L c t fr, Made P w ρ (execOp f o) g B v' w' L c t fr := by
  obtain ⟨dst, op, ty, pos, after, guard⟩ := o
  simp only at hc
  cases op
  case box t x =>
    simp only [cOp] at hc
    split at hc <;> cases hc
    rename_i a n h1 h2
    simp only [alc] at h
    split at h
    case isFalse => cases h
    rename_i hl
    cases h
    have hv := (ha x a h1).cells hl.2
    refine ⟨rfl, .pointer (some ⟨w.heap.size, 0, none⟩), { w with heap := w.heap.push (.cells (f x).cells t) }, ⟨w.heap.size, (f x).cells.size, n, 0⟩, (f x).cells, t, (0, 0), ⟨?_, rfl, rfl, rfl, rfl, rfl, rfl, rfl, .inl (Nat.le_refl _), row_cells hv, fun ρ' b hb => V3.ptr (o := 0) hb⟩⟩
    simp [execOp, Instr.box, newVar, newRow]
  case alloc t =>
    simp only [cOp, Option.map_eq_some_iff] at hc
    obtain ⟨z, h1, rfl⟩ := hc
    simp only [alc] at h
    cases h
    obtain ⟨inf, v, q1, q2, q3, q4, q5, q6⟩ := zero_inv h1
    have hv : All2 (V1 ρ) z v.cells.toList := by rw [q3]; exact All2.refl fun a ha => V1.of_flat (List.all_eq_true.1 q5 a ha)
    refine ⟨rfl, .pointer (some ⟨w.heap.size, 0, none⟩), { w with heap := w.heap.push (.cells v.cells t) }, ⟨w.heap.size, v.cells.size, z.length, 0⟩, v.cells, t, (0, 0), ⟨?_, rfl, rfl, rfl, rfl, rfl, rfl, rfl, .inl (Nat.le_refl _), row_cells hv, fun ρ' b hb => V3.ptr (o := 0) hb⟩⟩
    simp [execOp, Instr.alloc, newVar, newRow, run_zero q1 q2]
  case buildSlice t len parts =>
    simp only [cOp] at hc
    split at hc <;> try (cases hc)
    rename_i el h1
    split at hc <;> try (cases hc)
    rename_i z h2
    split at hc <;> try (cases hc)
    rename_i hsz
    simp only [Option.map_eq_some_iff] at hc
    obtain ⟨ps, h3, rfl⟩ := hc
    simp only [alc] at h
    split at h
    case h_2 => cases h
    rename_i r hf
    split at h
    case isFalse => cases h
    rename_i hone
    cases h
    obtain ⟨inf, v, q1, q2, q3, q4, q5, q6⟩ := zero_inv h2
    have hrep : All2 (V1 ρ) (rep z len) ((Array.range (len * z.length)).map (fun i => v.cells[i % v.cells.size]!)).toList := by
      rw [rep_range z v.cells q3]
      refine All2.refl fun a ha => V1.of_flat ?_
      have : ∀ n, ∀ a ∈ rep z n, flat1 a = true := by
        intro n
        induction n with
        | zero => intro a h; simp [rep] at h
        | succ n ih => intro a h; simp only [rep, List.mem_append] at h; rcases h with h | h; exact List.all_eq_true.1 q5 a h; exact ih a h
      exact this len a ha
    obtain ⟨r', g1, g2⟩ := fill_sound ha parts.toList h3 hf hrep
    have hm : (parts.map fun (i, x) => (i, f x)).toList = parts.toList.map fun p => (p.1, f p.2) := by simp
    have hlr : r'.size = len * z.length := by
      have h7 := fill_length _ _ hf
      have : r.length = r'.size := by have := g2.length; simpa using this
      rw [← this, h7, rep_length]
    refine ⟨rfl, .slice (some ⟨w.heap.size, 0, none⟩) len len, { w with heap := w.heap.push (.cells r' el) }, ⟨w.heap.size, r'.size, z.length, 0⟩, r', el, (0, 0), ⟨?_, rfl, rfl, rfl, rfl, rfl, rfl, rfl, .inl (Nat.le_refl _), row_cells g2, fun ρ' b hb => ?_⟩⟩
    · have hfill : ∀ zz : Array Value, (len * z.length ≠ 0 → zz = v.cells) → Instr.fill (fun i => some (i * z.length, z.length)) ((Array.range (len * z.length)).map (fun i => zz[i % zz.size]!)) (parts.map fun (i, x) => (i, f x)).toList = some r' := by
        intro zz hzz
        rw [hm, ← g1]
        by_cases h0 : len * z.length = 0
        · rw [h0]; simp [show Array.range 0 = #[] from rfl]
        · rw [hzz h0]
      simp only [execOp, Instr.buildSlice, Sem.run_bind, run_und h1, Result.andThen_ok, run_sz (szOf_zero h2)]
      rw [if_neg (by omega)]
      by_cases h0 : len * z.length = 0
      · rw [if_pos h0]
        simp only [Sem.run_pure, Result.andThen_ok, Sem.run_bind]
        rw [hfill #[] (fun h => absurd h0 h)]
        simp [newRow]
      · rw [if_neg h0]
        simp only [Sem.run_pure, Result.andThen_ok, Sem.run_bind, run_zero q1 q2]
        rw [hfill v.cells (fun _ => rfl)]
        simp [newRow]
    · refine ⟨_, 0, len, hb, rfl, rfl, ?_, ?_, ?_, ?_, ?_⟩
      · omega
      · omega
      · intro _; omega
      · intro _; rfl
      · simp only [hlr]; omega
  case convert s d x =>
    simp only [cOp] at hc
    split at hc
    · cases hc; simp [alc] at h
    · rename_i el x' h1 h2 h3
      split at hc
      · rename_i h4; cases hc
        have hav := ha x x' h3
        simp only [alc] at h
        split at h
        · rename_i st hb; cases h
          rw [hb] at hav
          have hx := hav.string_inv
          let cap := st.size + w.tape w.drawn (.appendCap st.size 0 el) % (2 ^ 63 - st.size)
          let c : Array Value := st.data.map (fun b => Value.int .u8 (b.toNat : Int)) ++ Array.replicate (cap - st.size) (.int .u8 0)
          have hcs : c.size = cap := by simp only [c, Array.size_append, Array.size_map, Array.size_replicate]; show st.size + (cap - st.size) = cap; simp only [cap]; omega
          refine ⟨rfl, .slice (some ⟨w.heap.size, 0, none⟩) st.size cap, { w with drawn := w.drawn + 1, heap := w.heap.push (.cells c el (c.size, c.size + 1)) }, ⟨w.heap.size, c.size, 1, 0⟩, c, el, (c.size, c.size + 1), ⟨?_, rfl, rfl, rfl, rfl, rfl, rfl, rfl, .inr (Nat.le_refl _), ?_, fun ρ' b hb => ?_⟩⟩
          · have hfz : ∀ (w1 : World), w1.heap = w.heap.push (.cells c el (0, 0)) → w1.freeze ⟨w.heap.size, c.size, none⟩ 1 = { w1 with heap := w.heap.push (.cells c el (c.size, c.size + 1)) } := by
              intro w1 hw1
              unfold World.freeze
              rw [if_neg (by omega)]
              congr 1
              rw [hw1]
              apply Array.ext_getElem?
              intro k
              rw [Array.getElem?_modify, Array.getElem?_push, Array.getElem?_push]
              by_cases hk : w.heap.size = k
              · subst hk; simp
              · rw [if_neg hk, if_neg (fun h => hk h.symm), if_neg (fun h => hk h.symm)]
            simp only [execOp, hx, convert, Sem.run_bind, run_und h1, run_und h2, Result.andThen_ok, run_und h4, Conv.stringToBytes]
            rw [run_choose]
            simp only [Question.forced, Bool.false_eq_true, if_false, Result.andThen_ok, newRow, Sem.run_bind, run_newObj, Sem.run_pure]
            have hcap : (Question.appendCap st.size 0 el).cut (w.tape w.drawn (.appendCap st.size 0 el)) = cap := rfl
            rw [hcap]
            simp only [markStringish, Sem.run_bind, run_shape, Result.andThen_ok]
            have hsh : World.shape? { w with heap := w.heap.push (.cells c el (0, 0)), drawn := w.drawn + 1 } w.heap.size = some (el, c.size) := by
              simp [World.shape?]
            simp only [c] at hsh hfz ⊢
            rw [hsh]
            simp only [run_freeze, Result.andThen_ok]
            rw [hfz _ rfl]
          · intro o u hu
            have hu' : (rowOfBytes st)[o]? = some u := hu
            simp only [rowOfBytes, List.getElem?_map, Option.map_eq_some_iff] at hu'
            obtain ⟨bt, hbt, rfl⟩ := hu'
            refine ⟨.int .u8 (bt.toNat : Int), ?_, V1.of_flat rfl⟩
            have ho : o < st.data.size := by
              have := (List.getElem?_eq_some_iff.1 hbt).1
              simpa using this
            simp only [c, Nat.add_zero]
            rw [Array.getElem?_append_left (by simpa using ho)]
            simp only [Array.getElem?_map]
            rw [Array.getElem?_toList] at hbt
            rw [hbt]; rfl
          · refine ⟨_, 0, cap, hb, rfl, rfl, ?_, ?_, ?_, ?_, ?_⟩
            · omega
            · simp only [cap]; omega
            · intro q; omega
            · intro _; rfl
            · simp only [hcs]; omega
        · cases h
      · cases hc
    · split at hc
      · cases hc; simp [alc] at h
      · cases hc
    · cases hc
  case makeSlice t l cp =>
    simp only [cOp] at hc
    split at hc <;> try (cases hc)
    rename_i el l' c' h1 h2 h3
    split at hc <;> cases hc
    rename_i z inf h4 h5
    simp only [alc] at h
    split at h
    case h_2 => cases h
    rename_i ln cn e1 e2
    split at h
    case isFalse => cases h
    rename_i hcond
    cases h
    obtain ⟨c1, c2, c3⟩ := hcond
    obtain ⟨kl, hl⟩ := natOf_inv e1 (ha l l' h2)
    obtain ⟨kc, hcv⟩ := natOf_inv e2 (ha cp c' h3)
    obtain ⟨inf', v, q1, q2, q3, q4, q5, q6⟩ := zero_inv h4
    rw [h5] at q1; cases q1
    have hz0 := szOf_zero h4
    let c : Array Value := (Array.range (cn * z.length)).map (fun i => v.cells[i % v.cells.size]!)
    have hcl : c.toList = rep z cn := rep_range z v.cells q3 cn
    have hcs : c.size = cn * z.length := by simp [c]
    refine ⟨rfl, .slice (some ⟨w.heap.size, 0, none⟩) ln cn, { w with heap := w.heap.push (.cells c el) }, ⟨w.heap.size, c.size, z.length, 0⟩, c, el, (0, 0), ⟨?_, rfl, rfl, rfl, rfl, rfl, rfl, rfl, .inl (Nat.le_refl _), ?_, fun ρ' b hb => ?_⟩⟩
    · have w1 : IntKind.i64.wrap (ln : Int) = (ln : Int) := by
        unfold IntKind.wrap
        simp [IntKind.bits, IntKind.signed]; omega
      have w2 : IntKind.i64.wrap (cn : Int) = (cn : Int) := by
        unfold IntKind.wrap
        simp [IntKind.bits, IntKind.signed]; omega
      have t1 : ∀ n : Nat, n ≤ cn → (decide ((n : Int) < 0) || decide ((inf.bytes : Int) * (n : Int) > 2 ^ 48)) = false := by
        intro n hn
        have : inf.bytes * n ≤ inf.bytes * cn := Nat.mul_le_mul_left _ hn
        have h2 : ((inf.bytes : Int) * (n : Int)) = ((inf.bytes * n : Nat) : Int) := by simp
        rw [h2]
        simp; omega
      have hcells : ∀ zz : Array Value, (cn * z.length ≠ 0 → zz = v.cells) → ((Array.range (cn * z.length)).map (fun i => zz[i % zz.size]!)) = c := by
        intro zz hzz
        by_cases h0 : cn * z.length = 0
        · simp [c, h0, show Array.range 0 = #[] from rfl]
        · rw [hzz h0]
      simp only [execOp, Instr.makeSlice, Sem.run_bind, run_und h1, Result.andThen_ok, hl, hcv, asInt, asIntOf, Sem.run_pure, run_info h5]
      simp only [w1, w2, t1 cn (Nat.le_refl _)]
      rw [if_neg (by simp; omega)]
      simp only [Sem.run_bind, run_askRoom, Result.andThen_ok, run_sz hz0, Int.toNat_natCast]
      by_cases h0 : cn * z.length = 0
      · rw [if_pos h0]
        simp only [Sem.run_pure, Result.andThen_ok, Sem.run_bind]
        rw [hcells #[] (fun h => absurd h0 h)]
        simp [newRow]
      · rw [if_neg h0]
        simp only [Sem.run_pure, Result.andThen_ok, Sem.run_bind, run_zero h5 q2]
        rw [hcells v.cells (fun _ => rfl)]
        simp [newRow]
    · intro o u hu
      simp only at hu
      split at hu
      · rename_i ho
        refine ⟨u, ?_, ?_⟩
        · have : c.toList[o]? = some u := by rw [hcl, rep_get z cn o ho]; exact hu
          simpa using this
        · refine V1.of_flat (List.all_eq_true.1 q5 u ?_)
          exact List.mem_of_getElem? hu
      · cases hu
    · refine ⟨_, 0, cn, hb, rfl, rfl, ?_, ?_, ?_, ?_, ?_⟩
      · omega
      · omega
      · intro _; omega
      · intro _; rfl
      · simp only [hcs]; omega
  case makeFunc fn first cap =>
    cases fn <;> simp only [cOp] at hc <;> try (cases hc; done)
    split at hc
    · simp only [Option.map_eq_some_iff] at hc; obtain ⟨_, _, rfl⟩ := hc; simp [alc] at h
    · cases hc
  case call c =>
    obtain ⟨callee, args, argTypes⟩ := c
    simp only [cOp] at hc
    cases callee
    case value g => cases g <;> simp at hc <;> obtain ⟨_, _, rfl⟩ := hc <;> simp [alc] at h
    case invoke => cases hc
    case builtin b =>
      simp only at hc
      split at hc <;> try (cases hc; done)
      cases b <;> simp only [cBuiltin, cLen, cApp, cCopy, cClear, cCap, cMM] at hc <;> try (cases hc; done)
      all_goals (repeat' split at hc)
      all_goals first | (cases hc; done) | (cases hc; simp [alc] at h; done) | (simp only [Option.map_eq_some_iff] at hc; obtain ⟨_, _, rfl⟩ := hc; simp [alc] at h; done)
  all_goals first
    | (simp only [cOp] at hc; cases hc; done)
    | (simp only [cOp, Option.map_eq_some_iff] at hc; obtain ⟨_, _, rfl⟩ := hc; simp [alc] at h; done)
    | (simp only [cOp, cBin] at hc; repeat' split at hc
       all_goals first | (cases hc; done) | (cases hc; simp [alc] at h; done) | (simp only [Option.map_eq_some_iff] at hc; obtain ⟨_, _, rfl⟩ := hc; simp [alc] at h; done))
    | trace_state
end
end Go.AM
end TextAmOp4
section TextAmOp5
/- AM: operations that write; calls. -/
namespace Go.AM
set_option linter.unusedVariables false
set_option linter.unusedSimpArgs false
def CallOk (P : Program) (C : CallF) : Prop := ∀ f args H v H', C f args H = some (v, H') → ∀ ρ args' w, Hw H → RelH ρ H w → All2 (V3 ρ) args args' →
  Calls P f args'.toArray w fun e w' => ∃ v' ρ', e = .returned v' ∧ V3 ρ' v v' ∧ Adv H.next ρ H w ρ' H' w'
section
variable {P : Program} {w : World}
/-- A block is forgotten. -/
theorem Adv.kill {base : Nat} {ρ : Rho} {H : Heap} (hr : RelH ρ H w) {b : Nat} {L : Loc} (hb : ρ b = some L) : Adv base ρ H w ρ (H.set b none) w where
  ext := RhoLe.refl _
  rel := ⟨fun k M hk => hr.dom k M hk, fun k M C hk hC => by
      have e : k ≠ b := fun e => by subst e; simp [Heap.set] at hC
      simp [Heap.set, e] at hC
      exact hr.blk k M C hk hC,
    fun k1 k2 M1 M2 C1 C2 g1 g2 g3 g4 g5 g6 => by
      have e1 : k1 ≠ b := fun e => by subst e; simp [Heap.set] at g3
      have e2 : k2 ≠ b := fun e => by subst e; simp [Heap.set] at g4
      simp [Heap.set, e1] at g3
      simp [Heap.set, e2] at g4
      exact hr.inj k1 k2 M1 M2 C1 C2 g1 g2 g3 g4 g5 g6⟩
  os := rfl
  tape := rfl
  output := rfl
  size := Nat.le_refl _
  keep := fun _ _ _ => rfl
  ghost := fun k hk h0 => ⟨h0, by
    have e : k ≠ b := fun e => by subst e; rw [hb] at h0; cases h0
    simp [Heap.set, e]⟩
  fresh := fun k L h h' => by rw [h] at h'; cases h'
  next := Nat.le_refl _
  back := fun k M B' hk hB' => by
    have e : k ≠ b := fun e => by subst e; simp [Heap.set] at hB'
    simp [Heap.set, e] at hB'
    exact ⟨B', hB', rfl, rfl⟩
theorem growBy_le (need : Nat) (h : 256 ≤ need) : ∀ (r c : Nat), c ≤ 2 * need → Builtin.growBy need r c ≤ 2 * need
  | 0, c, hc => hc
  | r + 1, c, hc => by
    simp only [Builtin.growBy]
    split
    · exact hc
    · exact growBy_le need h r _ (by omega)
theorem nextcap_le (need old : Nat) (h : old < need) : Builtin.nextslicecap need old ≤ 2 * need := by
  unfold Builtin.nextslicecap
  split
  · omega
  · split
    · omega
    · exact growBy_le need (by omega) 4 old (by omega)

theorem elems_sound {ρ : Rho} {H : Heap} (hr : RelH ρ H w) {esz k : Nat} {y y' : Value} {ys : List Value} {tx : TypeId} (hk : (∃ e', P.underlying tx = some (.slice e')) ∨ P.underlying tx = some .string) (hy : V3 ρ y y') (hl : strLen y = some k) (h : elems H esz k y = some ys) :
    ∃ ys', All2 (V1 ρ) ys ys' ∧ ys.length = k * esz ∧ Src P esz tx y' k ys' w := by
  have mk : ∀ ys', All2 (V1 ρ) ys ys' → ys.length = k * esz → (∀ w' : World, (Builtin.lenOf y').run P w' = .ok k w') → (∀ w' : World, w'.heap = w.heap → (Builtin.firstCells esz k y').run P w' = .ok ys'.toArray w') →
      ∃ ys', All2 (V1 ρ) ys ys' ∧ ys.length = k * esz ∧ Src P esz tx y' k ys' w := by
    intro ys' h1 h2 h3 h4
    refine ⟨ys', h1, h2, hk, h3, h4 w rfl, h4 w.drew rfl, by rw [← h1.length, h2], fun u hu => ?_⟩
    obtain ⟨i, hi, hiv⟩ := List.mem_iff_getElem.1 hu
    have hi2 : i < ys.length := by rw [h1.length]; exact hi
    obtain ⟨z, hz, hV⟩ := h1.get (List.getElem?_eq_getElem hi2)
    rw [List.getElem?_eq_getElem hi] at hz
    cases hz
    rw [← hiv]; exact hV.oneCell.2
  unfold elems at h
  split at h
  · rename_i b o n c
    simp only [strLen, Option.some.injEq] at hl
    subst hl
    obtain ⟨L, o', c', q1, rfl, q3, q4, q5, q6, q7⟩ := hy.slice_inv
    obtain ⟨ys', g1, g2, g3⟩ := row_sound hr q1 _ _ h
    refine mk ys' g1 (row_length _ _ h) (fun _ => rfl) fun w' hw' => ?_
    have hcell : ∀ a, w'.cell? a = w.cell? a := fun a => by simp [World.cell?, hw']
    by_cases h0 : 0 < n * esz
    · have hn : 0 < n := by rcases Nat.eq_zero_or_pos n with h | h; rw [h] at h0; simp at h0; exact h
      simp only [Builtin.firstCells]
      rw [q6 (by omega)]
      exact run_row g2 fun j v hv => by rw [hcell]; exact g3 j v hv
    · have h00 : n * esz = 0 := by omega
      have : ys' = [] := by rw [h00] at g2; simpa using g2
      subst this
      simp [Builtin.firstCells, h00, loadCells, loadCellsFrom]
  · rename_i n c
    obtain ⟨rfl, rfl, rfl⟩ := hy.nil_inv
    simp only [strLen, Option.some.injEq] at hl
    subst hl
    simp at h
    subst h
    exact mk [] trivial (by simp) (fun _ => rfl) fun w' _ => rfl
  · rename_i s
    split at h
    · rename_i he; subst he
      simp only [strLen, Option.some.injEq] at hl
      subst hl
      obtain rfl := hy.string_inv
      simp only [Option.some.injEq] at h
      have hlen : (rowOfBytes s).length = s.size := by unfold rowOfBytes; rw [List.length_map, Array.length_toList]; rfl
      have hys : ys = rowOfBytes s := by rw [← h, List.take_of_length_le (by omega)]
      subst hys
      refine mk (rowOfBytes s) (All2.refl fun a ha => V1.of_flat ?_) (by omega) (fun _ => rfl) fun w' _ => firstCells_string s w'
      unfold rowOfBytes at ha
      obtain ⟨_, _, rfl⟩ := List.mem_map.1 ha
      rfl
    · cases h
  · cases h
theorem firstN_sound {ρ : Rho} {H : Heap} (hr : RelH ρ H w) {esz k m : Nat} {y y' : Value} {ys : List Value} (hy : V3 ρ y y') (hl : strLen y = some k) (hm : m ≤ k) (h : elems H esz m y = some ys) :
    ∃ ys', All2 (V1 ρ) ys ys' ∧ ys.length = m * esz ∧ (∀ w' : World, (Builtin.lenOf y').run P w' = .ok k w') ∧ (Builtin.firstCells esz m y').run P w = .ok ys'.toArray w := by
  unfold elems at h
  split at h
  · rename_i b o n c
    simp only [strLen, Option.some.injEq] at hl
    subst hl
    obtain ⟨L, o', c', q1, rfl, q3, q4, q5, q6, q7⟩ := hy.slice_inv
    obtain ⟨ys', g1, g2, g3⟩ := row_sound hr q1 _ _ h
    refine ⟨ys', g1, row_length _ _ h, fun _ => rfl, ?_⟩
    by_cases h0 : 0 < m * esz
    · have hn : 0 < m := by rcases Nat.eq_zero_or_pos m with h | h; rw [h] at h0; simp at h0; exact h
      simp only [Builtin.firstCells]
      rw [q6 (by omega)]
      exact run_row g2 g3
    · have h00 : m * esz = 0 := by omega
      have : ys' = [] := by rw [h00] at g2; simpa using g2
      subst this
      simp [Builtin.firstCells, h00, loadCells, loadCellsFrom]
  · rename_i n c
    obtain ⟨rfl, rfl, rfl⟩ := hy.nil_inv
    simp only [strLen, Option.some.injEq] at hl
    subst hl
    split at h
    · rename_i h0; cases h
      exact ⟨[], trivial, by simpa using h0.symm, fun _ => rfl, rfl⟩
    · cases h
  · rename_i s
    split at h
    · rename_i he; subst he
      simp only [strLen, Option.some.injEq] at hl
      subst hl
      obtain rfl := hy.string_inv
      simp only [Option.some.injEq] at h
      subst h
      have hlen : (rowOfBytes s).length = s.size := by unfold rowOfBytes; rw [List.length_map, Array.length_toList]; rfl
      refine ⟨(rowOfBytes s).take m, All2.refl fun a ha => V1.of_flat ?_, by rw [List.length_take]; omega, fun _ => rfl, ?_⟩
      · have := List.mem_of_mem_take ha
        unfold rowOfBytes at this
        obtain ⟨_, _, rfl⟩ := List.mem_map.1 this
        rfl
      · simp only [Builtin.firstCells, Sem.run_pure]
        congr 1
        apply Array.ext'
        simp [rowOfBytes, ByteArray.data_extract, Array.toList_extract, List.extract_eq_take_drop, List.map_take]
    · cases h
  · cases h
theorem run_copy_gen {t u ty el : TypeId} {esz : Nat} {a : Addr} {n c k : Nat} {src : Value} {ys' : List Value} {w' : World} (hu : P.underlying t = some (.slice el)) (hz : szOf P el = some esz)
    (hlen : ∀ w' : World, (Builtin.lenOf src).run P w' = .ok k w') (hcells : (Builtin.firstCells esz (Nat.min k n) src).run P w = .ok ys'.toArray w) (hst : (storeCells a ys').run P w = .ok () w') :
    (Builtin.copy_ #[t, u] ty #[.slice (some a) n c, src]).run P w = .ok (.int .i64 ((Nat.min k n : Nat) : Int)) w' := by
  unfold Builtin.copy_
  simp only [List.getElem?_toArray, List.getElem?_cons_zero, List.getElem?_cons_succ, Sem.run_bind, run_und hu, Result.andThen_ok, hlen, run_sz hz, hcells, hst, Sem.run_pure, goInt]
theorem run_copy_none {ρ : Rho} {t u ty el : TypeId} {esz k : Nat} {y y' : Value} (hu : P.underlying t = some (.slice el)) (hz : szOf P el = some esz) (hy : V3 ρ y y') (hl : strLen y = some k) :
    (Builtin.copy_ #[t, u] ty #[.slice none 0 0, y']).run P w = .ok (.int .i64 0) w := by
  have h1 : (∃ k, ∀ w' : World, (Builtin.lenOf y').run P w' = .ok k w') ∧ ∃ cs, (Builtin.firstCells esz 0 y').run P w = .ok cs w := by
    cases y <;> simp [strLen] at hl
    · obtain rfl := hy.string_inv; exact ⟨⟨_, fun _ => rfl⟩, _, rfl⟩
    · rename_i a n c
      cases a with
      | none => obtain ⟨_, _, rfl⟩ := hy.nil_inv; exact ⟨⟨_, fun _ => rfl⟩, _, rfl⟩
      | some ad => obtain ⟨L, o', c', _, _, rfl, _⟩ := hy; exact ⟨⟨_, fun _ => rfl⟩, #[], by simp [Builtin.firstCells, loadCells, loadCellsFrom]⟩
  obtain ⟨⟨k', hk⟩, cs, hcs⟩ := h1
  unfold Builtin.copy_
  have hmin : Nat.min k' 0 = 0 := Nat.min_zero k'
  simp only [List.getElem?_toArray, List.getElem?_cons_zero, List.getElem?_cons_succ, Sem.run_bind, run_und hu, Result.andThen_ok, hk, run_sz hz, hmin, hcs, Sem.run_pure, goInt]
  rfl
theorem run_app_room (t tx ty e : TypeId) (i : TypeInfo) (ht : P.underlying t = some (.slice e)) (hi : P.info? e = some i) (base : Option Addr) (sLen sCap : Nat) (x : Value) (n : Nat) (news : List Value) (hs : Src P i.size tx x n news w)
    (hroom : sLen + n ≤ sCap) (w' : World) (hst : (match base with | some a => storeCells (a.add (sLen * i.size)) news | none => pure () : Sem Unit).run P w = .ok () w') :
    (Builtin.append_ #[t, tx] ty #[.slice base sLen sCap, x]).run P w = .ok (.slice base (sLen + n) sCap) w' := by
  cases base with
  | none =>
    cases hst
    rcases hs.kind with ⟨e', hk⟩ | hk <;> simp [Builtin.append_, run_underlying ht, run_underlying hk, sizeOf, typeInfo, hi, hs.len, hroom, hs.cells]
  | some a =>
    simp only at hst
    rcases hs.kind with ⟨e', hk⟩ | hk <;> simp [Builtin.append_, run_underlying ht, run_underlying hk, sizeOf, typeInfo, hi, hs.len, hroom, hs.cells, hst]
theorem zero_cells (z : Value) (n : Nat) : (Builtin.zeroCells z.cells n).toList = rep z.cells.toList n := by
  have := rep_range z.cells.toList z.cells rfl n
  unfold Builtin.zeroCells
  rw [← this, Array.length_toList]
theorem app_sound {ρ : Rho} {H H' : Heap} (hr : RelH ρ H w) {esz k : Nat} {x x' v : Value} {ys ys' : List Value} {y' : Value} {t tx ty e : TypeId} {inf : TypeInfo} {zv : Value} {z : List Value}
    (ht : P.underlying t = some (.slice e)) (hz : zeroOf P e = some z) (hi : P.info? e = some inf) (hzl : z.length = esz) (hx : V3 ρ x x') (hys : All2 (V1 ρ) ys ys') (hlen : ys.length = k * esz)
    (hs : Src P esz tx y' k ys' w) (h : appV H esz inf.bytes k x ys = some (v, H')) :
    ∃ v' w' ρ', (Builtin.append_ #[t, tx] ty #[x', y']).run P w = .ok v' w' ∧ V3 ρ' v v' ∧ Adv H.next ρ H w ρ' H' w' := by
  obtain ⟨inf', zv, q1, q2, q3, q4, q5, q6⟩ := zero_inv hz
  rw [hi] at q1; cases q1
  have hsz : inf.size = esz := by omega
  subst hsz
  unfold appV at h
  split at h
  · -- nothing is appended
    rename_i hk0
    subst hk0
    split at h
    · rename_i a n c
      cases h
      have hys0 : ys' = [] := by have := hys.length; simp at hlen; rw [hlen] at this; simpa using this.symm
      subst hys0
      cases a with
      | none =>
        obtain ⟨rfl, rfl, rfl⟩ := hx.nil_inv
        exact ⟨_, w, ρ, run_app_room t tx ty e inf ht hi none 0 0 y' 0 [] hs (by omega) w rfl, hx, Adv.refl hr⟩
      | some ad =>
        have hx0 := hx
        obtain ⟨L, o', c', g1, g2, rfl, g3, g4, _⟩ := hx
        exact ⟨_, w, ρ, run_app_room t tx ty e inf ht hi _ n c' y' 0 [] hs (by omega) w rfl, hx0, Adv.refl hr⟩
    · cases h
  rename_i hk0
  split at h
  · -- onto nil
    split at h
    case isFalse => cases h
    rename_i hcond
    cases h
    obtain ⟨c1, c2, c3⟩ := hcond
    obtain ⟨_, _, rfl⟩ := hx.nil_inv
    have hn := nextcap_le k 0 (by omega)
    have hrun := run_append_grow_src (P := P) w t tx ty e inf zv ht hi q2 none 0 0 [] (by rw [run_firstCells_none]) y' k ys' hs (by omega) (by simp; omega) (by
      simp only [Nat.zero_add]
      calc Builtin.nextslicecap k 0 * inf.bytes ≤ 2 * k * inf.bytes := Nat.mul_le_mul_right _ hn
        _ ≤ 281474976710656 := by rw [Nat.mul_assoc]; omega)
    simp only [Nat.zero_add, List.nil_append] at hrun
    have hge := grownCap_ge w k 0 e
    have hcl : (ys'.toArray ++ Builtin.zeroCells zv.cells (grownCap w k 0 e - k)).size = grownCap w k 0 e * inf.size := by
      have h1 : (Builtin.zeroCells zv.cells (grownCap w k 0 e - k)).size = (grownCap w k 0 e - k) * inf.size := by
        rw [← Array.length_toList, zero_cells, rep_length, q3, hzl]
      have h2 : ys'.length = k * inf.size := by rw [← hys.length, hlen]
      rw [Array.size_append, List.size_toArray, h1, h2, ← Nat.add_mul]; congr 1; omega
    let L : Loc := ⟨w.heap.size, grownCap w k 0 e * inf.size, inf.size, 0⟩
    refine ⟨_, _, rset ρ H.next L, hrun, ?_, ?_⟩
    · refine ⟨L, 0, grownCap w k 0 e, by simp [rset], rfl, rfl, ?_, ?_, ?_, ?_, ?_⟩
      · omega
      · omega
      · intro _; omega
      · intro _; rfl
      · simp [L]
    · refine Adv.alloc hr H.next (hr.none_ge (Nat.le_refl _)) (Nat.le_refl _) (by simp [Heap.add]) (by simp [Heap.add]) (rowBlk inf.size ys) (by simp [Heap.add]) (fun k hk => by simp [Heap.add, hk]) L _ e (0, 0) rfl rfl hcl rfl (.inl (Nat.le_refl _)) ?_ rfl rfl rfl
      intro o u hu
      obtain ⟨u', r1, r2⟩ := hys.get (show ys[o]? = some u from hu)
      refine ⟨u', ?_, r2⟩
      have : o < ys'.toArray.size := by have := (List.getElem?_eq_some_iff.1 r1).1; simpa using this
      rw [Array.getElem?_append_left (by simpa [L] using this)]
      simpa [L] using r1
  · rename_i b o n c
    obtain ⟨L, o', c', g1, rfl, g3, g4, g5, g6, g7⟩ := hx.slice_inv
    split at h
    · -- there is room, for sure
      rename_i hroom
      split at h
      case h_2 => cases h
      rename_i H1 hst
      cases h
      have ho := g6 (by omega)
      obtain ⟨w1, s1, s2⟩ := store_sound hr hst g1 (Nat.le_refl H.next) hys P
      refine ⟨_, w1, ρ, run_app_room t tx ty e inf ht hi _ n c' y' k ys' hs (by omega) w1 ?_, ?_, s2⟩
      · simp only [add_at]
        rw [show o' + n * inf.size = o + n * inf.size + L.shift by omega]; exact s1
      · exact ⟨L, o', c', g1, rfl, rfl, by omega, g4, g5, g6, g7⟩
    · rename_i hnr
      split at h
      case isFalse => cases h
      rename_i hcond
      obtain ⟨c1, c2, c3⟩ := hcond
      split at h
      case h_2 => cases h
      rename_i xs hrow
      obtain ⟨xs', x1, x2, x3⟩ := row_sound hr g1 _ _ hrow
      have hxl := row_length _ _ hrow
      have hxy : All2 (V1 ρ) (xs ++ ys) (xs' ++ ys') := x1.append hys
      have hyl : ys'.length = k * inf.size := by rw [← hys.length, hlen]
      -- no room
      have grow : c' < n + k → ∀ (H0 : Heap), RelH ρ H0 w → H0.next = H.next → (∀ j, ρ j = none → True) → ∃ v' w' ρ', (Builtin.append_ #[t, tx] ty #[.slice (some ⟨L.blk, o', none⟩) n c', y']).run P w = .ok v' w' ∧
          V3 ρ' (.slice (some ⟨H.next, 0, none⟩) (n + k) (2 * (n + k))) v' ∧ Adv H.next ρ H0 w ρ' (H0.add (rowBlk inf.size (xs ++ ys))) w' := by
        intro hlt H0 hr0 hnx _
        have hn := nextcap_le (n + k) c' hlt
        have hcells : ∀ w' : World, w'.heap = w.heap → (Builtin.firstCells inf.size n (.slice (some ⟨L.blk, o', none⟩) n c')).run P w' = .ok xs'.toArray w' := by
          intro w' hw'
          have hcell : ∀ a, w'.cell? a = w.cell? a := fun a => by simp [World.cell?, hw']
          simp only [Builtin.firstCells]
          by_cases h0 : 0 < c / 2
          · rw [g6 h0]; exact run_row x2 fun j v hv => by rw [hcell]; exact x3 j v hv
          · have : n = 0 := by omega
            subst this
            have : xs' = [] := by simpa using x2
            subst this
            simp [loadCells, loadCellsFrom]
        have hrun := run_append_grow_src (P := P) w t tx ty e inf zv ht hi q2 (some ⟨L.blk, o', none⟩) n c' xs' (hcells w.drew rfl) y' k ys' hs hlt (by simp; omega) (by
          calc Builtin.nextslicecap (n + k) c' * inf.bytes ≤ 2 * (n + k) * inf.bytes := Nat.mul_le_mul_right _ hn
            _ ≤ 281474976710656 := by rw [Nat.mul_assoc]; omega)
        have hge := grownCap_ge w (n + k) c' e
        have hcl : ((xs' ++ ys').toArray ++ Builtin.zeroCells zv.cells (grownCap w (n + k) c' e - (n + k))).size = grownCap w (n + k) c' e * inf.size := by
          have h1 : (Builtin.zeroCells zv.cells (grownCap w (n + k) c' e - (n + k))).size = (grownCap w (n + k) c' e - (n + k)) * inf.size := by
            rw [← Array.length_toList, zero_cells, rep_length, q3, hzl]
          rw [Array.size_append, List.size_toArray, h1, List.length_append, x2, hyl, ← Nat.add_mul, ← Nat.add_mul]; congr 1; omega
        let L2 : Loc := ⟨w.heap.size, grownCap w (n + k) c' e * inf.size, inf.size, 0⟩
        refine ⟨_, _, rset ρ H.next L2, hrun, ?_, ?_⟩
        · refine ⟨L2, 0, grownCap w (n + k) c' e, by simp [rset], rfl, rfl, ?_, ?_, ?_, ?_, ?_⟩
          · omega
          · omega
          · intro _; omega
          · intro _; rfl
          · simp [L2]
        · refine Adv.alloc hr0 H.next (hr0.none_ge (by omega)) (Nat.le_refl _) (by simp [Heap.add]; omega) (by simp [Heap.add]) (rowBlk inf.size (xs ++ ys)) (by simp [Heap.add, hnx]) (fun k hk => by simp [Heap.add, hnx, hk]) L2 _ e (0, 0) rfl rfl hcl rfl (.inl (Nat.le_refl _)) ?_ rfl rfl rfl
          intro j u hu
          obtain ⟨u', r1, r2⟩ := hxy.get (show (xs ++ ys)[j]? = some u from hu)
          refine ⟨u', ?_, r2⟩
          have : j < (xs' ++ ys').toArray.size := by have := (List.getElem?_eq_some_iff.1 r1).1; simpa using this
          rw [Array.getElem?_append_left (by simpa [L2] using this)]
          simpa [L2] using r1
      split at h
      · rename_i hodd
        cases h
        have hc' := g5 hodd
        exact grow (by omega) H hr rfl (fun _ _ => trivial)
      · rename_i heven
        split at h
        case h_2 => cases h
        rename_i B hB
        split at h
        case isFalse => cases h
        rename_i hBc
        cases h
        obtain ⟨hro, hBe⟩ := hBc
        have kl : Adv H.next ρ H w ρ (H.set b none) w := Adv.kill hr g1
        by_cases hlt : c' < n + k
        · obtain ⟨v', w', ρ', r1, r2, r3⟩ := grow hlt (H.set b none) kl.rel rfl (fun _ _ => trivial)
          exact ⟨v', w', ρ', r1, r2, kl.trans r3⟩
        · -- in place
          obtain ⟨cb, tb, fr, b1, b2, b3, b4, b5⟩ := hr.blk b L B g1 hB
          have hLe : L.esz = inf.size := b3.trans hBe
          have hfit : o' + n * inf.size + ys'.length ≤ cb.size := by
            rw [hyl, b2]
            have h1 : (n + k) * inf.size ≤ c' * inf.size := Nat.mul_le_mul_right _ (by omega)
            rw [hLe] at g7
            rw [Nat.add_mul] at h1
            omega
          have hone : ∀ u ∈ ys', u.oneCell' = true := hs.one
          have hrun := run_storeCells_w (P := P) L.blk (o' + n * inf.size) tb fr ys' 0 cb w b1 (b4 hro) (by simpa using hfit) hone
          let L2 : Loc := ⟨L.blk, L.size, inf.size, o'⟩
          let w1 := wput w L.blk (putsA cb (o' + n * inf.size + 0) ys') tb fr
          have hnew : ρ H.next = none := hr.none_ge (Nat.le_refl _)
          have hle : RhoLe ρ (rset ρ H.next L2) := rset_le hnew
          have hblt : b < H.next := hr.dom b L g1
          have hother : ∀ j M C, j ≠ b → ρ j = some M → H.blk j = some C → M.blk ≠ L.blk := fun j M C hj hM hC he => hj (hr.inj b j L M B C g1 hM hB hC hro he.symm).symm
          have hxs0 : ∀ j, j < n * inf.size → xs'[j]? = cb[o' + j]? := by
            intro j hj
            have hn : 0 < n := by rcases Nat.eq_zero_or_pos n with h | h; rw [h] at hj; simp at hj; exact h
            have ho := g6 (by omega)
            have hjl : j < xs'.length := by omega
            have := x3 j xs'[j] (List.getElem?_eq_getElem hjl)
            rw [add_at] at this
            simp only [World.cell?, b1] at this
            rw [List.getElem?_eq_getElem hjl, ← this, ho]
            simp
          refine ⟨_, w1, rset ρ H.next L2, run_app_room t tx ty e inf ht hi _ n c' y' k ys' hs (by omega) w1 (by simp only [add_at]; exact hrun), ?_, ?_⟩
          · refine ⟨L2, o', c', by simp [rset], rfl, rfl, ?_, ?_, ?_, ?_, ?_⟩
            · omega
            · omega
            · intro _; omega
            · intro _; simp [L2]
            · show o' + c' * inf.size ≤ L.size
              rw [← hLe]; exact g7
          · refine ⟨hle, ⟨?_, ?_, ?_⟩, rfl, rfl, rfl, by simp [w1, wput], ?_, ?_, ?_, by simp [Heap.add, Heap.set], ?_⟩
            · intro j M hj
              unfold rset at hj
              by_cases ej : j = H.next
              · simp [Heap.add, Heap.set, ej]
              · rw [if_neg ej] at hj; have := hr.dom j M hj; simp [Heap.add, Heap.set]; omega
            · intro j M C hj hC
              unfold rset at hj
              by_cases ej : j = H.next
              · subst ej
                rw [if_pos rfl] at hj; cases hj
                have hC' : rowBlk inf.size (xs ++ ys) = C := by simpa [Heap.add, Heap.set] using hC
                subst hC'
                refine ⟨_, tb, fr, wput_heap b1, by rw [putsA_size]; exact b2, rfl, fun _ => by rw [putsA_size]; exact b4 hro, fun i u hu => ?_⟩
                obtain ⟨u', r1, r2⟩ := hxy.get (show (xs ++ ys)[i]? = some u from hu)
                refine ⟨u', ?_, r2.mono hle⟩
                show (putsA cb (o' + n * inf.size + 0) ys')[i + o']? = some u'
                by_cases hi1 : i < n * inf.size
                · rw [putsA_out ys' _ cb _ (.inl (by omega))]
                  rw [List.getElem?_append_left (by omega)] at r1
                  rw [← r1, hxs0 i hi1, Nat.add_comm i o']
                · rw [List.getElem?_append_right (by omega), x2] at r1
                  have hj2 := (List.getElem?_eq_some_iff.1 r1).1
                  rw [show i + o' = o' + n * inf.size + 0 + (i - n * inf.size) by omega, putsA_in ys' _ cb _ (by simpa using hfit) hj2]
                  exact r1
              · rw [if_neg ej] at hj
                have hjb : j ≠ b := fun e => by subst e; simp [Heap.add, Heap.set, ej] at hC
                have hC' : H.blk j = some C := by simpa [Heap.add, Heap.set, ej, hjb] using hC
                obtain ⟨c2, t2, f2, m1, m2, m3, m4, m5⟩ := hr.blk j M C hj hC'
                refine ⟨c2, t2, f2, by rw [wput_other (hother j M C hjb hj hC')]; exact m1, m2, m3, m4, fun i u hu => ?_⟩
                obtain ⟨u', r1, r2⟩ := m5 i u hu
                exact ⟨u', r1, r2.mono hle⟩
            · intro j1 j2 M1 M2 C1 C2 h1 h2 h3 h4 h5 h6
              unfold rset at h1 h2
              by_cases e1 : j1 = H.next
              · by_cases e2 : j2 = H.next
                · rw [e1, e2]
                · rw [if_pos e1] at h1; cases h1
                  rw [if_neg e2] at h2
                  have hjb : j2 ≠ b := fun e => by subst e; simp [Heap.add, Heap.set, e2] at h4
                  have hC' : H.blk j2 = some C2 := by simpa [Heap.add, Heap.set, e2, hjb] using h4
                  exact absurd h6.symm (hother j2 M2 C2 hjb h2 hC')
              · rw [if_neg e1] at h1
                have hjb1 : j1 ≠ b := fun e => by subst e; simp [Heap.add, Heap.set, e1] at h3
                have hC1 : H.blk j1 = some C1 := by simpa [Heap.add, Heap.set, e1, hjb1] using h3
                by_cases e2 : j2 = H.next
                · rw [if_pos e2] at h2; cases h2
                  exact absurd h6 (hother j1 M1 C1 hjb1 h1 hC1)
                · rw [if_neg e2] at h2
                  have hjb : j2 ≠ b := fun e => by subst e; simp [Heap.add, Heap.set, e2] at h4
                  have hC' : H.blk j2 = some C2 := by simpa [Heap.add, Heap.set, e2, hjb] using h4
                  exact hr.inj j1 j2 M1 M2 C1 C2 h1 h2 hC1 hC' h5 h6
            · intro cb2 hcb hno
              exact wput_other (fun e => hno b L B g1 hB hro e.symm)
            · intro j hj h0
              have ej : j ≠ H.next := by omega
              have ejb : j ≠ b := fun e => by subst e; rw [g1] at h0; cases h0
              exact ⟨by unfold rset; rw [if_neg ej]; exact h0, by simp [Heap.add, Heap.set, ej, ejb]⟩
            · intro j M h0 hj
              unfold rset at hj
              by_cases ej : j = H.next
              · rw [if_pos ej] at hj; cases hj
                exact ⟨by omega, .inr ⟨b, L, B, g1, hB, hro, rfl⟩⟩
              · rw [if_neg ej] at hj; rw [h0] at hj; cases hj
            · intro j M B' hj hB'
              have ej : j ≠ H.next := fun e => by subst e; rw [hnew] at hj; cases hj
              have ejb : j ≠ b := fun e => by subst e; simp [Heap.add, Heap.set, ej] at hB'
              exact ⟨B', by simpa [Heap.add, Heap.set, ej, ejb] using hB', rfl, rfl⟩
  · cases h
theorem wp_value {o : Oper} {a : Act} {K : Act → World → Prop} {Q : Exit → Act → World → Prop} {v : Value} {w' : World} (h : (execOp a.eval o).run P w = .ok (.value v) w') (hK : K (a.put o.dst v) w') : o.wp P a w K Q := by
  unfold Oper.wp; rw [h]; exact hK
theorem wp_skip' {o : Oper} {a : Act} {K : Act → World → Prop} {Q : Exit → Act → World → Prop} {w' : World} (h : (execOp a.eval o).run P w = .ok .skip w') (hK : K (a.put o.dst undef) w') : o.wp P a w K Q := by
  unfold Oper.wp; rw [h]; exact hK
theorem wp_enter {o : Oper} {a : Act} {K : Act → World → Prop} {Q : Exit → Act → World → Prop} {f : FuncId} {args : Array Value} {w' : World} (h : (execOp a.eval o).run P w = .ok (.enter f args) w')
    (hK : Calls P f args w' fun e w'' => ∃ v, e = .returned v ∧ K (a.put o.dst v) w'') : o.wp P a w K Q := by
  unfold Oper.wp; rw [h]
  refine hK.mono fun e w'' he => ?_
  obtain ⟨v, rfl, hk⟩ := he
  exact hk
/-- Which functions may be called: those that stand in the model with a body and are not the one the model keeps for itself. -/
def Callable (P : Program) (f : FuncId) : Prop := ∃ fn, P.funcs[f]? = some fn ∧ fn.name ≠ "runtime.NumGoroutine" ∧ fn.body.isSome = true
theorem run_callFunc {f : FuncId} {args : Array Value} (h : Callable P f) : (callFunc f args).run P w = .ok (.enter f args) w := by
  obtain ⟨fn, h1, h2, h3⟩ := h
  have h5 : fn.body ≠ none := by intro hb; rw [hb] at h3; cases h3
  simp [callFunc, h1, h2, h5, Sem.run_ite]
theorem eff_sound {C : CallF} (hC : CallOk P C) (hCb : ∀ f args H r, C f args H = some r → Callable P f) {ρ : Rho} {e : Env} {a : Act} {N : Nat} {H H' : Heap} {o : Oper} {i : Ins} {v : Value} (hc : cOp P o.op = some i) (hk : isEff i = true) (hs : step P C i e H = some (v, H'))
    (ha : ArgR ρ e a.eval) (hw : Hw H) (hr : RelH ρ H w) (K : Act → World → Prop) (Q : Exit → Act → World → Prop) (hK : ∀ v' w' ρ', V3 ρ' v v' → Adv H.next ρ H w ρ' H' w' → K (a.put o.dst v') w') : o.wp P a w K Q := by
  obtain ⟨dst, op, ty, pos, after, guard⟩ := o
  simp only at hc
  cases op
  case store t ad x =>
    simp only [cOp] at hc
    split at hc <;> cases hc
    rename_i ad' x' n h1 h2 h3
    have hav := ha ad ad' h1
    simp only [step] at hs
    split at hs
    · rename_i b off hb
      split at hs
      · rename_i hl
        split at hs
        · rename_i H1 hst; cases hs
          rw [hb] at hav
          obtain ⟨L, q1, q2⟩ := hav.ptr_inv
          have hxr := ha x x' h2
          have hone : (ev e x').cells.toList.all Value.oneCell' = true ∨ (ev e x').cells.toList = [] := by
            cases hcs : (ev e x').cells.toList with
            | nil => exact .inr rfl
            | cons c0 cs =>
              left
              rw [hcs] at hst
              simp only [Heap.store] at hst
              split at hst
              · split at hst
                · rename_i hcnd; exact hcnd.2.2
                · cases hst
              · cases hst
          have hcells : All2 (V1 ρ) (ev e x').cells.toList (a.eval x).cells.toList := by
            rcases hone with h | h
            · exact hxr.cells h
            · exact hxr.cells (by rw [h]; rfl)
          obtain ⟨w', r1, r2⟩ := store_sound hr hst q1 (Nat.le_refl H.next) hcells P
          refine wp_skip' (w' := w') ?_ (hK undef w' ρ V3.undef r2)
          have hsz : (a.eval x).cells.size = n := by rw [← Array.length_toList, ← hcells.length]; exact hl
          simp only [execOp, Instr.storeAt, q2, Instr.sureAddr, Sem.run_bind, Sem.run_pure, Result.andThen_ok, storeVar, run_sz h3]
          rw [if_neg (by simpa using hsz)]
          simp only [r1, Result.andThen_ok]
        · cases hs
      · cases hs
    · cases hs
  case call c =>
    obtain ⟨callee, args, argTypes⟩ := c
    simp only [cOp] at hc
    cases callee
    case invoke => cases hc
    case value g =>
      cases g <;> simp at hc <;> obtain ⟨xs, h1, rfl⟩ := hc
      · rename_i n
        have hargs := args_sound ha h1
        have hgv := ha (.tmp n) (.t n) rfl
        simp only [step] at hs
        split at hs
        · rename_i fid first cap hb
          split at hs
          · rename_i hz
            rw [hb] at hgv
            obtain ⟨q1, cap', q2, q3⟩ := hgv.func_inv
            have hall : All2 (V3 ρ) (xs.map (ev e) ++ cap.toList) (args.map a.eval ++ cap').toList := by
              rw [Array.toList_append, Array.toList_map]
              exact hargs.append (q3.mono fun _ _ h => h.one.three)
            have hcall := hC _ _ _ _ _ hs ρ _ w hw hr hall
            rw [Array.toArray_toList] at hcall
            refine wp_enter (f := fid) (args := args.map a.eval ++ cap') (w' := w) ?_ ?_
            · simp only [execOp, resolve, Sem.run_bind, q2, Deferred.ofValue, Sem.run_pure, Result.andThen_ok, invoke]
              rw [show (#[] ++ args.map a.eval : Array Value) = args.map a.eval by simp]
              exact run_callFunc (hCb _ _ _ _ hs)
            · refine Calls.mono hcall fun e' w'' he => ?_
              obtain ⟨v', ρ', rfl, p1, p2⟩ := he
              exact ⟨v', rfl, hK v' w'' ρ' p1 p2⟩
          · cases hs
        · cases hs
      · rename_i fid
        have hargs := args_sound ha h1
        simp only [step] at hs
        have hcall := hC _ _ _ _ _ hs ρ (args.map a.eval).toList w hw hr (by rw [Array.toList_map]; exact hargs)
        rw [Array.toArray_toList] at hcall
        refine wp_enter (f := fid) (args := args.map a.eval) (w' := w) ?_ ?_
        · simp only [execOp, resolve, Sem.run_bind, Act.eval, Deferred.ofValue, Sem.run_pure, Result.andThen_ok, invoke]
          rw [show (#[] ++ args.map a.eval ++ #[] : Array Value) = args.map a.eval by simp]
          exact run_callFunc (hCb _ _ _ _ hs)
        · refine Calls.mono hcall fun e' w'' he => ?_
          obtain ⟨v', ρ', rfl, p1, p2⟩ := he
          exact ⟨v', rfl, hK v' w'' ρ' p1 p2⟩
    case builtin b =>
      simp only at hc
      split at hc <;> try (cases hc; done)
      rename_i xs h1
      have hxs := args_sound ha h1
      have htl : ∀ tl, argTypes.toList = tl → argTypes = tl.toArray := fun tl h => by rw [← h]
      have two : ∀ x y, xs = [x, y] → ∃ x' y', args.map a.eval = #[x', y'] ∧ V3 ρ (ev e x) x' ∧ V3 ρ (ev e y) y' := by
        intro x y hx
        subst hx
        obtain ⟨x', l, q1, q2, q3⟩ := hxs.cons_left
        obtain ⟨y', l', rfl, q5, q6⟩ := q3.cons_left
        obtain rfl := q6.nil_left
        exact ⟨x', y', by apply Array.ext'; simpa using q1, q2, q5⟩
      have one : ∀ x, xs = [x] → ∃ x', args.map a.eval = #[x'] ∧ V3 ρ (ev e x) x' := by
        intro x hx
        subst hx
        obtain ⟨x', l, q1, q2, q3⟩ := hxs.cons_left
        obtain rfl := q3.nil_left
        exact ⟨x', by apply Array.ext'; simpa using q1, q2⟩
      have sem : ∀ (b : Builtin) (v' : Value) (w' : World), (builtin b argTypes ty (args.map fun | .const _ => true | _ => false) (args.map a.eval)).run P w = .ok (.value v') w' →
          (execOp a.eval ⟨dst, .call ⟨.builtin b, args, argTypes⟩, ty, pos, after, guard⟩).run P w = .ok (.value v') w' := by
        intro b v' w' h
        simp only [execOp, resolve, Sem.run_bind, Sem.run_pure, Result.andThen_ok, invoke]
        exact h
      cases b <;> simp only [cBuiltin] at hc <;> try (cases hc; done)
      case len => unfold cLen at hc; repeat' split at hc
                  all_goals first | (cases hc; done) | (cases hc; simp [isEff] at hk; done)
      case cap => unfold cCap at hc; repeat' split at hc
                  all_goals first | (cases hc; done) | (cases hc; simp [isEff] at hk; done)
      case min => unfold cMM at hc; repeat' split at hc
                  all_goals first | (cases hc; done) | (cases hc; simp [isEff] at hk; done)
      case max => unfold cMM at hc; repeat' split at hc
                  all_goals first | (cases hc; done) | (cases hc; simp [isEff] at hk; done)
      case append =>
        have fin : ∀ (t u el : TypeId) (x y : Arg) (z : List Value) (inf : TypeInfo) (esz : Nat), argTypes.toList = [t, u] → xs = [x, y] → P.underlying t = some (.slice el) → ((∃ e', P.underlying u = some (.slice e')) ∨ P.underlying u = some .string) → zeroOf P el = some z → P.info? el = some inf → z.length = esz →
            i = .app esz inf.bytes x y → Oper.wp P ⟨dst, .call ⟨.builtin .append, args, argTypes⟩, ty, pos, after, guard⟩ a w K Q := by
          intro t u el x y z inf esz e1 e2 e3 e4 e5 e6 e7 e8
          subst e8
          obtain ⟨x', y', g1, g2, g3⟩ := two x y e2
          have hty := htl _ e1
          simp only [step] at hs
          split at hs
          case h_2 => cases hs
          rename_i k hk1
          split at hs
          case h_2 => cases hs
          rename_i ys hel
          obtain ⟨ys', p1, p2, p3⟩ := elems_sound (P := P) hr e4 g3 hk1 hel
          obtain ⟨v', w', ρ', r1, r2, r3⟩ := app_sound (P := P) (ty := ty) (zv := default) hr e3 e5 e6 e7 g2 p1 p2 p3 hs
          refine wp_value (sem _ v' w' ?_) (hK v' w' ρ' r2 r3)
          rw [g1, hty]
          simp only [builtin, Sem.run_bind, r1, Result.andThen_ok, Sem.run_pure]
        unfold cApp at hc
        split at hc
        · rename_i t u x y e1
          split at hc
          · rename_i el el' h2 h3
            split at hc
            · rename_i z n' inf h4 h5 h6
              split at hc <;> cases hc
              exact fin t u el x y z inf z.length e1 rfl h2 (.inl ⟨_, h3⟩) h4 h6 rfl rfl
            · cases hc
          · rename_i el h2 h3
            split at hc
            · rename_i z inf h4 h6; cases hc
              exact fin t u el x y [z] inf 1 e1 rfl h2 (.inr h3) h4 h6 rfl rfl
            · cases hc
          · cases hc
        · cases hc
      case copy =>
        have fin : ∀ (t u el : TypeId) (x y : Arg) (esz : Nat), argTypes.toList = [t, u] → xs = [x, y] → P.underlying t = some (.slice el) → ((∃ e', P.underlying u = some (.slice e')) ∨ P.underlying u = some .string) → szOf P el = some esz →
            i = .copy esz x y → Oper.wp P ⟨dst, .call ⟨.builtin .copy, args, argTypes⟩, ty, pos, after, guard⟩ a w K Q := by
          intro t u el x y esz e1 e2 e3 e4 e5 e8
          subst e8
          obtain ⟨x', y', g1, g2, g3⟩ := two x y e2
          have hty := htl _ e1
          simp only [step] at hs
          split at hs
          · rename_i b off n c k hbx hk1
            split at hs
            case h_2 => cases hs
            rename_i ys hel
            split at hs
            case h_2 => cases hs
            rename_i H1 hst
            cases hs
            rw [hbx] at g2
            obtain ⟨L, o', c', q1, rfl, q3, q4, q5, q6, q7⟩ := g2.slice_inv
            obtain ⟨ys', p1, p2, p3⟩ := firstN_sound (P := P) hr g3 hk1 (Nat.min_le_left k n) hel
            obtain ⟨w', r1, r2⟩ := store_sound hr hst q1 (Nat.le_refl H.next) p1 P
            refine wp_value (sem _ (.int .i64 ((Nat.min k n : Nat) : Int)) w' ?_) (hK _ w' ρ (V1.of_flat (v := .int .i64 _) rfl).three r2)
            rw [g1, hty]
            have hst' : (storeCells ⟨L.blk, o', none⟩ ys').run P w = .ok () w' := by
              by_cases h0 : 0 < c / 2
              · rw [q6 h0]; exact r1
              · have hn0 : n = 0 := by omega
                have : ys' = [] := by
                  have h1 := p1.length
                  rw [p2, hn0] at h1
                  have : min k 0 = 0 := Nat.min_zero k
                  rw [this] at h1
                  simpa using h1.symm
                subst this
                simp only [storeCells, Sem.run_pure] at r1 ⊢
                exact r1
            simp only [builtin, Sem.run_bind]
            rw [run_copy_gen (P := P) e3 e5 p3.1 p3.2 hst']
            rfl
          · rename_i k hbx hk1
            cases hs
            rw [hbx] at g2
            obtain ⟨_, _, rfl⟩ := g2.nil_inv
            refine wp_value (sem _ (.int .i64 0) w ?_) (hK _ w ρ (V1.of_flat (v := .int .i64 _) rfl).three (Adv.refl hr))
            rw [g1, hty]
            simp only [builtin, Sem.run_bind]
            rw [run_copy_none (P := P) e3 e5 g3 hk1]
            rfl
          · cases hs
        unfold cCopy at hc
        split at hc
        · rename_i t u x y e1
          split at hc
          · rename_i el el' h2 h3
            split at hc
            · rename_i n n' h4 h5
              split at hc <;> cases hc
              exact fin t u el x y n e1 rfl h2 (.inl ⟨_, h3⟩) h4 rfl
            · cases hc
          · rename_i el h2 h3
            split at hc
            · rename_i h4; cases hc
              exact fin t u el x y 1 e1 rfl h2 (.inr h3) h4 rfl
            · cases hc
          · cases hc
        · cases hc
      case clear =>
        unfold cClear at hc
        split at hc
        · rename_i t x e1
          obtain ⟨x', g1, g2⟩ := one x rfl
          have hty := htl _ e1
          split at hc
          · rename_i el h2
            simp only [Option.map_eq_some_iff] at hc
            obtain ⟨z, h3, rfl⟩ := hc
            obtain ⟨inf, zv, z1, z2, z3, z4, z5, z6⟩ := zero_inv h3
            simp only [step] at hs
            split at hs
            · rename_i n c hb; cases hs
              rw [hb] at g2
              obtain ⟨rfl, rfl, rfl⟩ := g2.nil_inv
              refine wp_value (sem _ undef w ?_) (hK _ w ρ V3.undef (Adv.refl hr))
              rw [g1, hty]
              simp [builtin, Builtin.clear_, run_und h2, undef]
            · rename_i b off n c hb
              split at hs
              · rename_i H1 hst; cases hs
                rw [hb] at g2
                obtain ⟨L, o', c', q1, rfl, q3, q4, q5, q6, q7⟩ := g2.slice_inv
                have hrr : All2 (V1 ρ) (rep z n) (Builtin.zeroCells zv.cells n).toList := by
                  rw [zero_cells, z3]
                  refine All2.refl fun a ha => V1.of_flat ?_
                  have : ∀ n, ∀ a ∈ rep z n, flat1 a = true := by
                    intro n
                    induction n with
                    | zero => intro a h; simp [rep] at h
                    | succ n ih => intro a h; simp only [rep, List.mem_append] at h; rcases h with h | h; exact List.all_eq_true.1 z5 a h; exact ih a h
                  exact this n a ha
                obtain ⟨w', r1, r2⟩ := store_sound hr hst q1 (Nat.le_refl H.next) hrr P
                refine wp_value (sem _ undef w' ?_) (hK _ w' ρ V3.undef r2)
                rw [g1, hty]
                cases n with
                | zero =>
                  have : w' = w := by
                    rw [zero_cells] at r1
                    simp only [rep, storeCells, Sem.run_pure] at r1
                    cases r1; rfl
                  subst this
                  simp [builtin, Builtin.clear_, run_und h2, undef]
                | succ n =>
                  rw [q6 (by omega)]
                  simp [builtin, Builtin.clear_, run_und h2, undef, run_zero z1 z2, r1]
              · cases hs
            · cases hs
          · cases hc
        · cases hc
  all_goals first
    | (simp only [cOp] at hc; cases hc; done)
    | (simp only [cOp, Option.map_eq_some_iff] at hc; obtain ⟨_, _, rfl⟩ := hc; simp [isEff] at hk; done)
    | (simp only [cOp, cBin] at hc; repeat' split at hc
       all_goals first | (cases hc; done) | (cases hc; simp [isEff] at hk; done) | (simp only [Option.map_eq_some_iff] at hc; obtain ⟨_, _, rfl⟩ := hc; simp [isEff] at hk; done))
    | (rename_i fn first cap; cases fn <;> simp only [cOp] at hc <;> try (cases hc; done)
       split at hc <;> try (cases hc; done)
       simp only [Option.map_eq_some_iff] at hc; obtain ⟨_, _, rfl⟩ := hc; simp [isEff] at hk; done)
    | trace_state
end
end Go.AM
end TextAmOp5
