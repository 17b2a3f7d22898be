/- AM: operations that write nothing and make nothing: one by one. -/
import Derived.Test.YtiiliffoclejlaaAmOp1
namespace Go.AM
set_option linter.unusedVariables false
set_option linter.unusedSimpArgs false
section
variable {P : Program} {w : World}
theorem capt_sound {ρ : Rho} : ∀ {vs vs' : List Value}, All2 (V3 ρ) vs vs' → vs.all capt = true → All2 (V0 ρ) vs vs'
  | [], [], _, _ => trivial
  | v :: vs, v' :: vs', h, hc => by
    simp only [List.all_cons, Bool.and_eq_true] at hc
    refine ⟨?_, capt_sound h.2 hc.2⟩
    have h1 := h.1
    have hv := hc.1
    cases v
    case pointer a =>
      cases a with
      | none => exact h1
      | some a => exact h1
    case slice a n c =>
      cases a with
      | none => exact h1
      | some a => exact h1
    case func fn first cap =>
      have := V1.flat (ρ := ρ) (v := .func fn first cap) (v' := v') hv h1
      rw [this]; exact V0.of_flat hv
    case agg cs => simp [capt, flat1] at hv
    case tuple cs => simp [capt, flat1] at hv
    all_goals exact h1
theorem cArgs_get : ∀ {xs : List Operand} {ys : List Arg}, cArgs xs = some ys → xs.length = ys.length
  | [], ys, h => by cases h; rfl
  | x :: xs, ys, h => by
    simp only [cArgs] at h
    split at h
    · rename_i a l h1 h2; cases h; simp [cArgs_get h2]
    · cases h
def bndS (d y : Nat) (code : BoundsCode) : Option Value → Sem Nat
  | some v => Instr.sliceBound v y code
  | none => pure d
theorem bounds_two (isS : Bool) (len cap : Nat) (lo hi : Option Value) : Instr.sliceBounds isS len cap lo hi none =
    (do let h ← bndS len cap (if isS then .sliceAcap else .sliceAlen) hi; let l ← bndS 0 h .sliceB lo; pure (l, h, cap)) := by
  unfold Instr.sliceBounds
  cases hi <;> cases lo <;> rfl
theorem bounds_three (isS : Bool) (len cap : Nat) (lo : Option Value) (hi mx : Value) : Instr.sliceBounds isS len cap lo (some hi) (some mx) =
    (do let m ← Instr.sliceBound mx cap (if isS then .slice3Acap else .slice3Alen); let h ← Instr.sliceBound hi m .slice3B; let l ← bndS 0 h .slice3C lo; pure (l, h, m)) := by
  unfold Instr.sliceBounds
  cases lo <;> rfl
theorem ptr_of {ρ : Rho} {v v' : Value} {b o : Nat} (hv : V3 ρ v v') (h : v = .pointer (some ⟨b, o, none⟩)) : ∃ L, ρ b = some L ∧ v' = .pointer (some ⟨L.blk, o + L.shift, none⟩) := by
  subst h; exact hv.ptr_inv

theorem ld_sound {ρ : Rho} {H : Heap} (hr : RelH ρ H w) {t : TypeId} {b o n : Nat} {g : Bool} {v : Value} {L : Loc} (hb : ρ b = some L) (hz : szOf P t = some n) (hg : aggOf P t = some g)
    (h : (if g then (H.row b o n).map (fun vs => Value.agg vs.toArray) else H.cell b o) = some v) : ∃ v', (Instr.loadAt t (.pointer (some ⟨L.blk, o + L.shift, none⟩))).run P w = .ok v' w ∧ V3 ρ v v' := by
  cases g with
  | true =>
    simp only [if_true] at h
    cases hrow : H.row b o n with
    | none => rw [hrow] at h; cases h
    | some vs =>
      rw [hrow] at h; cases h
      obtain ⟨vs', h1, h2, h3⟩ := row_sound hr hb n o hrow
      refine ⟨.agg vs'.toArray, ?_, ⟨_, rfl, by simpa using h1⟩⟩
      simp [Instr.loadAt, Instr.sureAddr, loadVar, run_agg hg, run_sz hz, run_row h2 h3]
  | false =>
    simp only [Bool.false_eq_true, if_false] at h
    obtain ⟨v', h1, h2⟩ := cell_sound hr h hb
    exact ⟨v', by simp [Instr.loadAt, Instr.sureAddr, loadVar, run_agg hg, h1], h2.three⟩

theorem bytesRow_inv : ∀ {vs : List Value} {l : List UInt8}, bytesOfRow vs = some l → ∃ ns : List Int, vs = ns.map (Value.int .u8) ∧ l = ns.map fun n => UInt8.ofNat n.toNat
  | [], l, h => by cases h; exact ⟨[], rfl, rfl⟩
  | v :: vs, l, h => by
    cases v
    case int k n =>
      cases k
      case u8 =>
        simp only [bytesOfRow] at h
        split at h
        · rename_i l' h'; cases h
          obtain ⟨ns, rfl, rfl⟩ := bytesRow_inv h'
          exact ⟨n :: ns, rfl, rfl⟩
        · cases h
      all_goals cases h
    all_goals cases h
theorem foldl_push : ∀ (ns : List Int) (s : ByteArray), ns.foldl (fun r n => r.push (UInt8.ofNat n.toNat)) s = ⟨s.data ++ (ns.map fun n => UInt8.ofNat n.toNat).toArray⟩
  | [], s => by cases s; simp
  | n :: ns, s => by
    simp only [List.foldl_cons, foldl_push ns]
    congr 1
    simp [ByteArray.push]
theorem b2s_sound {ρ : Rho} {H : Heap} (hr : RelH ρ H w) {b o n : Nat} {c' : Nat} {vs : List Value} {l : List UInt8} {L : Loc} {o' : Nat} (hb : ρ b = some L) (hrow : H.row b o n = some vs) (hl : bytesOfRow vs = some l) (ho : 0 < n → o' = o + L.shift) :
    (Conv.bytesToString (.slice (some ⟨L.blk, o', none⟩) n c')).run P w = .ok (.string ⟨l.toArray⟩) w := by
  obtain ⟨ns, rfl, rfl⟩ := bytesRow_inv hl
  clear hl
  obtain ⟨vs', h1, h2, h3⟩ := row_sound hr hb n o hrow
  have hvs : vs' = ns.map (Value.int .u8) := h1.eq_of fun a b ha hab => by
    obtain ⟨m, _, rfl⟩ := List.mem_map.1 ha
    exact V1.flat rfl hab
  subst hvs
  have hrun : (loadCells ⟨L.blk, o', none⟩ n).run P w = .ok (ns.map (Value.int .u8)).toArray w := by
    by_cases h0 : 0 < n
    · rw [ho h0]; exact run_row h2 h3
    · obtain rfl : n = 0 := by omega
      have : ns = [] := by simpa using h2
      subst this; rfl
  rw [run_bytesToString w _ n c' ns hrun, foldl_push]
  simp

theorem bound_sound {ρ : Rho} {d y n : Nat} {lo lo' : Option Value} {code : BoundsCode} (h : bound d lo = some n) (hl : ∀ v, lo = some v → ∃ v', lo' = some v' ∧ V3 ρ v v') (hn : lo = none → lo' = none) (hy : n ≤ y) :
    (bndS d y code lo').run P w = .ok n w := by
  cases lo with
  | none => rw [hn rfl]; cases h; rfl
  | some v =>
    obtain ⟨v', rfl, hv⟩ := hl v rfl
    obtain ⟨k, rfl⟩ := natOf_inv h hv
    simp only [bndS, Instr.sliceBound, asIntOf, Sem.run_bind, Sem.run_pure, Result.andThen_ok]
    rw [if_pos ⟨by omega, by omega⟩]
    simp
theorem opt_sound {ρ : Rho} {e : Env} {f : Operand → Value} (ha : ArgR ρ e f) {x : Option Operand} {y : Option Arg} (h : cOpt x = some y) :
    (∀ v, y.map (ev e) = some v → ∃ v', x.map f = some v' ∧ V3 ρ v v') ∧ (y.map (ev e) = none → x.map f = none) ∧ (y.isSome = x.isSome) := by
  cases x with
  | none => cases h; exact ⟨(fun v h => by cases h), (fun _ => rfl), rfl⟩
  | some x =>
    simp only [cOpt] at h
    split at h
    · rename_i a h1; cases h
      exact ⟨(fun v hv => by cases hv; exact ⟨_, rfl, ha _ _ h1⟩), (fun h => by cases h), rfl⟩
    · cases h
theorem sls_sound {ρ : Rho} {s : ByteArray} {lo hi lo' hi' : Option Value} {v : Value} {t : TypeId} (hu : P.underlying t = some .string) (h : slsV s lo hi = some v)
    (hl : ∀ v, lo = some v → ∃ v', lo' = some v' ∧ V3 ρ v v') (hln : lo = none → lo' = none) (hh : ∀ v, hi = some v → ∃ v', hi' = some v' ∧ V3 ρ v v') (hhn : hi = none → hi' = none) :
    (Instr.sliceAt t (.string s) lo' hi' none).run P w = .ok v w := by
  unfold slsV at h
  split at h
  · rename_i hn e1
    split at h
    · rename_i ln e2
      split at h
      · rename_i hc; cases h
        have r1 := bound_sound (P := P) (w := w) (d := s.size) (y := s.size) (code := .sliceAlen) e1 hh hhn hc.2
        have r2 := bound_sound (P := P) (w := w) (d := 0) (y := hn) (code := .sliceB) e2 hl hln hc.1
        unfold Instr.sliceAt
        rw [Sem.run_bind, run_und hu]
        simp only [Result.andThen_ok]
        unfold Instr.slice
        rw [Sem.run_bind, run_und hu]
        simp only [Result.andThen_ok, Option.isSome_none, Bool.false_eq_true, if_false, bounds_two, Sem.run_bind, r1, r2, Sem.run_pure]
      · cases h
    · cases h
  · cases h
theorem eszIs_inv {ρ : Rho} {H : Heap} (hr : RelH ρ H w) {b n : Nat} {L : Loc} (hb : ρ b = some L) (h : H.eszIs b n = true) : L.esz = n := by
  unfold Heap.eszIs at h
  cases hB : H.blk b with
  | none => rw [hB] at h; cases h
  | some B =>
    rw [hB] at h
    obtain ⟨_, _, _, _, _, h3, _⟩ := hr.blk b L B hb hB
    rw [h3]; simpa using h
theorem slv_sound {ρ : Rho} {H : Heap} (hr : RelH ρ H w) {esz : Nat} {x x' v : Value} {lo hi mx lo' hi' mx' : Option Value} {t el : TypeId} (hu : P.underlying t = some (.slice el)) (hz : szOf P el = some esz) (h : slvV H esz x lo hi mx = some v) (hx : V3 ρ x x')
    (hl : ∀ v, lo = some v → ∃ v', lo' = some v' ∧ V3 ρ v v') (hln : lo = none → lo' = none) (hh : ∀ v, hi = some v → ∃ v', hi' = some v' ∧ V3 ρ v v') (hhn : hi = none → hi' = none)
    (hm : ∀ v, mx = some v → ∃ v', mx' = some v' ∧ V3 ρ v v') (hmn : mx = none → mx' = none) :
    ∃ v', (Instr.sliceAt t x' lo' hi' mx').run P w = .ok v' w ∧ V3 ρ v v' := by
  unfold slvV at h
  split at h
  case h_2 => cases h
  rename_i a n c
  split at h
  case h_2 => cases h
  rename_i m0 e0
  split at h
  case h_2 => cases h
  rename_i hv e1
  split at h
  case h_2 => cases h
  rename_i lv e2
  split at h
  case isFalse => cases h
  rename_i hc
  obtain ⟨c1, c2, c3, c4⟩ := hc
  have key : ∃ a' c', x' = .slice a' n c' ∧ c / 2 ≤ c' ∧ (c % 2 = 1 → c' = c / 2) ∧ ∀ m, (mx = none → m = c') → (mx.isSome = true → m = m0) → V3 ρ v (.slice (if m = lv then a' else a'.map (·.add (lv * esz))) (hv - lv) (m - lv)) := by
    cases a with
    | none =>
      obtain ⟨rfl, rfl, rfl⟩ := hx.nil_inv
      simp only [Option.some.injEq] at h
      subst h
      refine ⟨none, 0, rfl, Nat.le_refl _, fun _ => rfl, fun m h1 h2 => ?_⟩
      have hm0 : m = 0 := by
        cases mx with
        | none => exact h1 rfl
        | some _ => have := h2 rfl; omega
      subst hm0
      obtain rfl : lv = 0 := by omega
      obtain rfl : hv = 0 := by omega
      exact ⟨rfl, rfl⟩
    | some ad =>
      obtain ⟨b, o, sp⟩ := ad
      cases sp with
      | some sp => cases h
      | none =>
        simp only at h
        split at h
        case isFalse => cases h
        rename_i hes
        cases h
        obtain ⟨L, o', c', h1, rfl, h2, h3, h4, h5, h6⟩ := hx.slice_inv
        refine ⟨_, c', rfl, h3, h4, fun m g1 g2 => ?_⟩
        have hmge : m0 ≤ m ∧ m ≤ c' ∧ ((if mx.isSome then 1 else c % 2) = 1 → m = m0) := by
          cases mx with
          | none =>
            obtain rfl := g1 rfl
            have e0' : m0 = c / 2 := by simpa [bound] using e0.symm
            refine ⟨by omega, by omega, fun q => ?_⟩
            have : c % 2 = 1 := by simpa using q
            rw [h4 this, e0']
          | some y => obtain rfl := g2 rfl; exact ⟨by omega, by omega, fun _ => rfl⟩
        have hx1 : (if mx.isSome then 1 else c % 2) ≤ 1 := by split <;> omega
        generalize hxe : (if mx.isSome then 1 else c % 2) = xx at hx1 hmge
        have hdiv : (2 * (m0 - lv) + xx) / 2 = m0 - lv := by omega
        have hmod : (2 * (m0 - lv) + xx) % 2 = xx := by omega
        have hbd : ∀ q, lv + q ≤ c' → o' + lv * esz + q * L.esz ≤ L.size := by
          intro q hq
          simp only [Bool.or_eq_true, beq_iff_eq] at hes
          rcases hes with hes | hes
          · subst hes
            have : q * L.esz ≤ c' * L.esz := Nat.mul_le_mul_right _ (by omega)
            omega
          · have := eszIs_inv hr h1 hes
            have h7 : (lv + q) * L.esz ≤ c' * L.esz := Nat.mul_le_mul_right _ hq
            rw [Nat.add_mul] at h7
            rw [← this]; omega
        by_cases hml : m = lv
        · rw [if_pos hml]
          refine ⟨L, o', m - lv, h1, rfl, rfl, ?_, ?_, ?_, ?_, ?_⟩
          · rw [hdiv]; omega
          · rw [hdiv]; omega
          · rw [hmod, hdiv]; intro q; have := hmge.2.2 q; omega
          · rw [hdiv]; intro q; omega
          · have : m - lv = 0 := by omega
            rw [this]
            have : o' ≤ o' + c' * L.esz := by omega
            omega
        · rw [if_neg hml]
          refine ⟨L, o' + lv * esz, m - lv, h1, rfl, by simp [add_at], ?_, ?_, ?_, ?_, ?_⟩
          · rw [hdiv]; omega
          · rw [hdiv]; omega
          · rw [hmod, hdiv]; intro q; have := hmge.2.2 q; omega
          · rw [hdiv]; intro q
            have := h5 (by omega)
            simp only; omega
          · exact hbd _ (by omega)
  obtain ⟨a', c', rfl, hcc, hex, hfin⟩ := key
  have hrun : ∃ m, (mx = none → m = c') ∧ (mx.isSome = true → m = m0) ∧ (Instr.sliceBounds true n c' lo' hi' mx').run P w = .ok (lv, hv, m) w := by
    cases mx with
    | none =>
      have e0' : m0 = c / 2 := by simpa [bound] using e0.symm
      rw [hmn rfl]
      refine ⟨c', fun _ => rfl, fun h => by (cases h), ?_⟩
      have r1 := bound_sound (P := P) (w := w) (d := n) (y := c') (code := .sliceAcap) e1 hh hhn (by omega)
      have r2 := bound_sound (P := P) (w := w) (d := 0) (y := hv) (code := .sliceB) e2 hl hln c1
      simp only [bounds_two, Sem.run_bind, if_true, r1, r2, Result.andThen_ok, Sem.run_pure]
    | some y =>
      obtain ⟨y', rfl, hy⟩ := hm y rfl
      have hih := c4 rfl
      cases hi with
      | none => cases hih
      | some z =>
        obtain ⟨z', rfl, hz'⟩ := hh z rfl
        refine ⟨m0, fun h => by (cases h), fun _ => rfl, ?_⟩
        have r0 := bound_sound (P := P) (w := w) (d := 0) (y := c') (code := .slice3Acap) (lo := some y) (lo' := some y') e0 (fun v hv => by cases hv; exact ⟨y', rfl, hy⟩) (fun h => by cases h) (by omega)
        have r1 := bound_sound (P := P) (w := w) (d := 0) (y := m0) (code := .slice3B) (lo := some z) (lo' := some z') e1 (fun v hv => by cases hv; exact ⟨z', rfl, hz'⟩) (fun h => by cases h) c2
        have r2 := bound_sound (P := P) (w := w) (d := 0) (y := hv) (code := .slice3C) e2 hl hln c1
        simp only [bndS] at r0 r1
        simp only [bounds_three, Sem.run_bind, if_true, r0, r1, r2, Result.andThen_ok, Sem.run_pure]
  obtain ⟨m, g1, g2, hrun⟩ := hrun
  refine ⟨_, ?_, hfin m g1 g2⟩
  unfold Instr.sliceAt
  rw [Sem.run_bind, run_und hu]
  simp only [Result.andThen_ok]
  unfold Instr.slice
  rw [Sem.run_bind, run_und hu]
  simp only [Result.andThen_ok, Sem.run_bind, hrun, run_sz hz, Sem.run_pure]
end
end Go.AM
