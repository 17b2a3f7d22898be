/- AM: literals; then all operations that write nothing and make nothing. -/
import Derived.Test.YtiiliffoclejlaaAmOp2
namespace Go.AM
set_option linter.unusedVariables false
set_option linter.unusedSimpArgs false
section
variable {P : Program} {w : World}
theorem foldl_puts (off : Nat) : ∀ (vs : List Value) (k : Nat) (cs : Array Value), (vs.zipIdx k).foldl (fun cs (p : Value × Nat) => cs.setIfInBounds (off + p.2) p.1) cs = putsA cs (off + k) vs
  | [], _, _ => rfl
  | v :: vs, k, cs => by
    simp only [List.zipIdx_cons, List.foldl_cons, putsA]
    exact foldl_puts off vs (k + 1) _
theorem putsA_list (vs : List Value) (o : Nat) (c : Array Value) (h : o + vs.length ≤ c.size) : (putsA c o vs).toList = c.toList.take o ++ vs ++ c.toList.drop (o + vs.length) := by
  apply List.ext_getElem?
  intro i
  have hs : (c.toList.take o).length = o := by simp; omega
  rw [Array.getElem?_toList]
  by_cases h1 : i < o
  · rw [putsA_out vs o c i (.inl h1), List.append_assoc, List.getElem?_append_left (by omega), List.getElem?_take_of_lt h1, Array.getElem?_toList]
  · by_cases h2 : i < o + vs.length
    · obtain ⟨j, rfl⟩ : ∃ j, i = o + j := ⟨i - o, by omega⟩
      rw [putsA_in vs o c j h (by omega), List.append_assoc, List.getElem?_append_right (by omega), hs, List.getElem?_append_left (by omega)]
      congr 1; omega
    · rw [putsA_out vs o c i (.inr (by omega)), List.getElem?_append_right (by simp; omega), List.getElem?_drop, Array.getElem?_toList]
      congr 1; simp; omega
theorem fill_sound {ρ : Rho} {e : Env} {f : Operand → Value} (ha : ArgR ρ e f) {pl : Nat → Option (Nat × Nat)} : ∀ (parts : List (Nat × Operand)) {ps : List (Nat × Nat × Arg)} {cs r : List Value} {cs' : Array Value}, cParts pl parts = some ps →
    fillL cs (ps.map fun p => (p.1, p.2.1, ev e p.2.2)) = some r → All2 (V1 ρ) cs cs'.toList →
    ∃ r', Instr.fill pl cs' (parts.map fun p => (p.1, f p.2)) = some r' ∧ All2 (V1 ρ) r r'.toList
  | [], ps, cs, r, cs', hp, hf, hc => by
    cases hp
    simp only [List.map_nil, fillL, Option.some.injEq] at hf
    subst hf
    exact ⟨cs', rfl, hc⟩
  | (i, x) :: parts, ps, cs, r, cs', hp, hf, hc => by
    simp only [cParts] at hp
    split at hp
    case h_2 => cases hp
    rename_i o n a l e1 e2 e3
    cases hp
    simp only [List.map_cons, fillL] at hf
    split at hf
    case isFalse => cases hf
    rename_i hcond
    obtain ⟨g1, g2, hone⟩ := hcond
    have hv : All2 (V1 ρ) (ev e a).cells.toList (f x).cells.toList := (ha x a e2).cells hone
    have hl := hv.length
    have hcl := hc.length
    have hsz : (f x).cells.size = n := by rw [← Array.length_toList]; omega
    have hcs : cs'.size = cs.length := by rw [← Array.length_toList]; omega
    simp only [List.map_cons, Instr.fill, e1]
    have hno : ¬ ((decide ((f x).cells.size ≠ n) || decide (o + (f x).cells.size > cs'.size)) = true) := by simp [hsz]; omega
    rw [if_neg hno]
    have hfold : ((f x).cells.zipIdx.foldl (fun cs (p : Value × Nat) => cs.setIfInBounds (o + p.2) p.1) cs') = putsA cs' o (f x).cells.toList := by
      rw [← Array.foldl_toList]
      have := foldl_puts o (f x).cells.toList 0 cs'
      simpa using this
    refine fill_sound ha parts (cs := cs.take o ++ (ev e a).cells.toList ++ cs.drop (o + n)) e3 hf ?_
    have h3 := putsA_list (f x).cells.toList o cs' (by simp; omega)
    have h4 : (Array.foldl (fun cs x_1 => match x_1 with | (c, j) => cs.setIfInBounds (o + j) c) cs' (f x).cells.zipIdx).toList = cs'.toList.take o ++ (f x).cells.toList ++ cs'.toList.drop (o + n) := by
      rw [← hsz]
      rw [Array.length_toList] at h3
      rw [← h3, ← hfold]
    rw [h4]
    exact (((hc.take o).append hv).append (hc.drop (o + n)))
theorem places_sound : ∀ (fs : List Field) {l : List (Nat × Nat)}, places P fs = some l → (fs.mapM fun f => (do pure (f.offset, ← sizeOf f.type) : Sem (Nat × Nat))).run P w = .ok l w
  | [], l, h => by cases h; simp
  | f :: fs, l, h => by
    simp only [places] at h
    split at h
    · rename_i n l' e1 e2; cases h
      have ih := places_sound fs e2
      simp only [List.mapM_cons, Sem.run_bind, run_sz e1, Result.andThen_ok, Sem.run_pure] at ih ⊢
      rw [ih]; simp
    · cases h
theorem build_sound {ρ : Rho} {e : Env} {f : Operand → Value} (ha : ArgR ρ e f) {t : TypeId} {parts : Array (Nat × Operand)} {z : List Value} {ps : List (Nat × Nat × Arg)} {r : List Value} {pl : Nat → Option (Nat × Nat)} (hz : zeroOf P t = some z)
    (hpl : (∃ fs l, P.underlying t = some (.struct fs) ∧ places P fs.toList = some l ∧ pl = fun (i : Nat) => l[i]?) ∨ (∃ m el n, P.underlying t = some (.array m el) ∧ szOf P el = some n ∧ pl = fun i => some (i * n, n)))
    (hp : cParts pl parts.toList = some ps) (hf : fillL z (ps.map fun p => (p.1, p.2.1, ev e p.2.2)) = some r) :
    ∃ r', (Instr.build t (parts.map fun (i, x) => (i, f x))).run P w = .ok (.agg r') w ∧ All2 (V1 ρ) r r'.toList := by
  obtain ⟨inf, v, h1, h2, h3, h4, h5, h6⟩ := zero_inv hz
  have hc : All2 (V1 ρ) z v.cells.toList := by rw [h3]; exact All2.refl fun a ha => V1.of_flat (List.all_eq_true.1 h5 a ha)
  obtain ⟨r', g1, g2⟩ := fill_sound ha parts.toList hp hf hc
  refine ⟨r', ?_, g2⟩
  have hm : (parts.map fun (i, x) => (i, f x)).toList = parts.toList.map fun p => (p.1, f p.2) := by simp
  unfold Instr.build
  simp only [Sem.run_bind, run_zero h1 h2, Result.andThen_ok]
  rcases hpl with ⟨fs, l, q1, q2, rfl⟩ | ⟨m, el, n, q1, q2, rfl⟩
  · have hpls := places_sound (P := P) (w := w) fs.toList q2
    simp only [run_und q1, Result.andThen_ok, Sem.run_bind, Array.mapM_eq_mapM_toList, Sem.run_map, hpls, hm]
    have e : (fun (x : Nat) => l.toArray[x]?) = fun (i : Nat) => l[i]? := by funext i; simp
    rw [e, g1]; simp
  · simp only [run_und q1, Result.andThen_ok, Sem.run_bind, run_sz q2, hm]
    rw [g1]; simp

theorem rd_sound {C : CallF} {ρ : Rho} {e : Env} {f : Operand → Value} {H H' : Heap} {o : Oper} {i : Ins} {v : Value} (hc : cOp P o.op = some i) (k1 : isAl i = false) (k2 : isEff i = false) (hs : step P C i e H = some (v, H')) (ha : ArgR ρ e f) (hr : RelH ρ H w) :
    H' = H ∧ ∃ v', (execOp f o).run P w = .ok (.value v') w ∧ V3 ρ v v' := by
  obtain ⟨dst, op, ty, pos, after, guard⟩ := o
  simp only at hc
  cases op
  case move x =>
    simp only [cOp, Option.map_eq_some_iff] at hc
    obtain ⟨a, h1, rfl⟩ := hc
    cases hs
    exact ⟨rfl, _, rfl, ha x a h1⟩
  case assign x =>
    simp only [cOp, Option.map_eq_some_iff] at hc
    obtain ⟨a, h1, rfl⟩ := hc
    cases hs
    exact ⟨rfl, _, rfl, ha x a h1⟩
  case pick c a b =>
    simp only [cOp] at hc
    split at hc <;> cases hc
    rename_i c' a' b' h1 h2 h3
    have hcv := ha c c' h1
    simp only [step] at hs
    split at hs
    · rename_i hb; cases hs
      rw [hb] at hcv
      refine ⟨rfl, f a, ?_, ha a a' h2⟩
      simp [execOp, hcv.bool_inv, asBool]
    · rename_i hb; cases hs
      rw [hb] at hcv
      refine ⟨rfl, f b, ?_, ha b b' h3⟩
      simp [execOp, hcv.bool_inv, asBool]
    · cases hs
  case load t a =>
    simp only [cOp] at hc
    split at hc <;> cases hc
    · rename_i a' n h1 h2 h3
      simp only [step] at hs
      have hav := ha a a' h1
      split at hs
      · rename_i b o hb
        split at hs
        · rename_i vs hrow; cases hs
          rw [hb] at hav
          obtain ⟨L, g1, g2⟩ := hav.ptr_inv
          obtain ⟨v', r1, r2⟩ := ld_sound (P := P) hr (t := t) (o := o) g1 h3 h2 (v := .agg vs.toArray) (by simp [hrow])
          exact ⟨rfl, v', by simp [execOp, g2, r1], r2⟩
        · cases hs
      · cases hs
    · rename_i a' n h1 h2 h3
      simp only [step] at hs
      have hav := ha a a' h1
      split at hs
      · rename_i b o hb
        split at hs
        · rename_i u hrow; cases hs
          rw [hb] at hav
          obtain ⟨L, g1, g2⟩ := hav.ptr_inv
          obtain ⟨v', r1, r2⟩ := ld_sound (P := P) hr (t := t) (o := o) g1 h3 h2 (v := v) (by simp [hrow])
          exact ⟨rfl, v', by simp [execOp, g2, r1], r2⟩
        · cases hs
      · cases hs
  case nilCheck x =>
    simp only [cOp, Option.map_eq_some_iff] at hc
    obtain ⟨a, h1, rfl⟩ := hc
    have hav := ha x a h1
    simp only [step] at hs
    split at hs
    · rename_i ad hb; cases hs
      rw [hb] at hav
      obtain ⟨L, q1, q2, q3⟩ := hav
      refine ⟨rfl, f x, by rw [show f x = _ from q3]; simp [execOp, q3], ?_⟩
      exact ⟨L, q1, q2, q3⟩
    · cases hs
  case binOp bo t x y ty2 =>
    simp only [cOp] at hc
    split at hc <;> try (cases hc; done)
    rename_i x' y' h1 h2
    have plain : i = .bin bo t x' y' → H' = H ∧ ∃ v', (execOp f ⟨dst, .binOp bo t x y ty2, ty, pos, after, guard⟩).run P w = .ok (.value v') w ∧ V3 ρ v v' := by
      intro e; subst e
      simp only [step] at hs
      split at hs
      · rename_i u hb; cases hs
        obtain ⟨v', r1, r2⟩ := bin_sound (P := P) (w := w) (x := x) (y := y) hb (ha x x' h1) (ha y y' h2)
        exact ⟨rfl, v', by simp only [execOp, Sem.run_bind] at r1 ⊢; rw [r1]; rfl, r2⟩
      · cases hs
    have agg : ∀ neg ss, isStruct P t = true → P.eqGuardType P.depth t = false → eqT P 8 t = some ss → bo = (if neg then .neq else .eql) → i = .eqa neg ss x' y' → H' = H ∧ ∃ v', (execOp f ⟨dst, .binOp bo t x y ty2, ty, pos, after, guard⟩).run P w = .ok (.value v') w ∧ V3 ρ v v' := by
      intro neg ss e1 e2 e3 e4 e5
      subst e5 e4
      simp only [step] at hs
      split at hs
      · rename_i xs ys hbx hby
        split at hs
        · rename_i b hb; cases hs
          have hxv := ha x x' h1
          have hyv := ha y y' h2
          rw [hbx] at hxv
          rw [hby] at hyv
          have r1 := eqa_sound (P := P) (w := w) (x := x) (y := y) (neg := neg) e1 e2 e3 hxv hyv hb
          exact ⟨rfl, .bool (b != neg), by simp only [execOp, Sem.run_bind] at r1 ⊢; rw [r1]; rfl, (V1.of_flat (v := .bool _) rfl).three⟩
        · cases hs
      · cases hs
    unfold cBin at hc
    split at hc
    · rename_i hst
      split at hc
      · split at hc
        · cases hc
        · rename_i hg
          split at hc
          · rename_i ss hss; cases hc; exact agg false ss hst (by simpa using hg) hss rfl rfl
          · cases hc
      · split at hc
        · cases hc
        · rename_i hg
          split at hc
          · rename_i ss hss; cases hc; exact agg true ss hst (by simpa using hg) hss rfl rfl
          · cases hc
      · cases hc
    · cases hc; exact plain rfl
  case unOp uo t x =>
    simp only [cOp, Option.map_eq_some_iff] at hc
    obtain ⟨a, h1, rfl⟩ := hc
    have hav := ha x a h1
    simp only [step] at hs
    split at hs
    · rename_i hf
      split at hs
      · rename_i u hb
        cases hs
        obtain ⟨hb1, hb2⟩ := flatRes_inv hb
        have := hav.flat (flat_of2 (flat2_of1 hf))
        exact ⟨rfl, v, by simp [execOp, this, pv_run _ hb1], (V1.of_flat hb2).three⟩
      · cases hs
    · cases hs
  case convert s d x =>
    simp only [cOp] at hc
    split at hc
    · rename_i k0 k x' h1 h2 h3; cases hc
      have hav := ha x x' h3
      simp only [step] at hs
      split at hs
      · rename_i kk n hb; cases hs
        rw [hb] at hav
        refine ⟨rfl, .int k (k.wrap n), ?_, (V1.of_flat (v := .int k _) rfl).three⟩
        simp [execOp, hav.int_inv, convert, run_und h1, run_und h2, Conv.intToInt]
      · cases hs
    · split at hc
      · cases hc; simp [isAl] at k1
      · cases hc
    · rename_i el x' h1 h2 h3
      split at hc
      · rename_i h4; cases hc
        have hav := ha x x' h3
        simp only [step] at hs
        split at hs
        · rename_i n c hb; cases hs
          rw [hb] at hav
          obtain ⟨rfl, rfl, hx⟩ := hav.nil_inv
          refine ⟨rfl, .string .empty, ?_, (V1.of_flat (v := .string _) rfl).three⟩
          simp [execOp, hx, convert, run_und h1, run_und h2, run_und h4, Conv.bytesToString]
        · rename_i b o n c hb
          split at hs
          · rename_i vs hrow
            split at hs
            · rename_i l hl; cases hs
              rw [hb] at hav
              obtain ⟨L, o', c', q1, q2, q3, q4, q5, q6, q7⟩ := hav.slice_inv
              have := b2s_sound (P := P) hr (c' := c') q1 hrow hl (o' := o') (fun hn => q6 (by omega))
              refine ⟨rfl, _, ?_, (V1.of_flat (v := .string _) rfl).three⟩
              simp only [execOp, Sem.run_bind, q2, convert, run_und h1, run_und h2, Result.andThen_ok]
              simp only [run_und h4, Result.andThen_ok, Sem.run_bind, this, Sem.run_pure]
            · cases hs
          · cases hs
        · cases hs
      · cases hc
    · cases hc
  case makeFunc fn first cap =>
    cases fn <;> simp only [cOp] at hc <;> try (cases hc)
    rename_i fid
    split at hc
    · rename_i hz
      simp only [Option.map_eq_some_iff] at hc
      obtain ⟨ys, h1, rfl⟩ := hc
      simp only [step] at hs
      split at hs
      · rename_i hv0; cases hs
        have hz2 := args_sound ha h1
        refine ⟨rfl, .func (.func fid) #[] (cap.map f), ?_, ?_⟩
        · have : first.map f = #[] := by rw [arr_nil hz]; simp
          simp [execOp, Instr.makeFunc, this]
        · refine ⟨⟨fid, rfl⟩, rfl, _, rfl, ?_⟩
          simp only [Array.toList_map]
          exact capt_sound hz2 hv0
      · cases hs
    · cases hc
  case slice t x lo hi mx =>
    simp only [cOp] at hc
    split at hc <;> try (cases hc)
    · rename_i x' lo' hi' h0 h1 h2 h3 h4
      obtain ⟨l1, l2, _⟩ := opt_sound ha h2
      obtain ⟨g1, g2, _⟩ := opt_sound ha h3
      have hmn : mx = none := by
        cases mx with
        | none => rfl
        | some y => simp only [cOpt] at h4; split at h4 <;> cases h4
      subst hmn
      have hav := ha x x' h1
      simp only [step] at hs
      split at hs
      · rename_i s hb
        split at hs
        · rename_i u hv; cases hs
          rw [hb] at hav
          have := sls_sound (P := P) (w := w) h0 hv l1 l2 g1 g2
          refine ⟨rfl, v, by simp [execOp, hav.string_inv, this], ?_⟩
          unfold slsV at hv
          split at hv
          · split at hv
            · split at hv
              · cases hv; exact (V1.of_flat (v := .string _) rfl).three
              · cases hv
            · cases hv
          · cases hv
        · cases hs
      · cases hs
    · rename_i el x' lo' hi' mx' h0 h1 h2 h3 h4
      split at hc <;> cases hc
      rename_i n h5
      obtain ⟨l1, l2, _⟩ := opt_sound ha h2
      obtain ⟨g1, g2, _⟩ := opt_sound ha h3
      obtain ⟨m1, m2, _⟩ := opt_sound ha h4
      simp only [step] at hs
      split at hs
      · rename_i u hv; cases hs
        obtain ⟨v', r1, r2⟩ := slv_sound (P := P) hr h0 h5 hv (ha x x' h1) l1 l2 g1 g2 m1 m2
        exact ⟨rfl, v', by simp [execOp, r1], r2⟩
      · cases hs
  case build t parts =>
    simp only [cOp] at hc
    have fin : ∀ (pl : Nat → Option (Nat × Nat)) (z : List Value), zeroOf P t = some z → ((∃ fs l, P.underlying t = some (.struct fs) ∧ places P fs.toList = some l ∧ pl = fun (i : Nat) => l[i]?) ∨ (∃ m el n, P.underlying t = some (.array m el) ∧ szOf P el = some n ∧ pl = fun i => some (i * n, n))) →
        (cParts pl parts.toList).map (Ins.build z) = some i → H' = H ∧ ∃ v', (execOp f ⟨dst, .build t parts, ty, pos, after, guard⟩).run P w = .ok (.value v') w ∧ V3 ρ v v' := by
      intro pl z hz hpl hm
      simp only [Option.map_eq_some_iff] at hm
      obtain ⟨ps, h1, rfl⟩ := hm
      simp only [step] at hs
      split at hs
      · rename_i r hf; cases hs
        obtain ⟨r', g1, g2⟩ := build_sound (P := P) (w := w) ha hz hpl h1 hf
        exact ⟨rfl, .agg r', by simp only [execOp, Sem.run_bind, g1]; rfl, ⟨r', rfl, by simpa using g2⟩⟩
      · cases hs
    split at hc
    · rename_i z fs h1 h2
      split at hc
      · rename_i l h3; exact fin _ z h1 (.inl ⟨fs, l, h2, h3, rfl⟩) hc
      · cases hc
    · rename_i z m el h1 h2
      split at hc
      · rename_i n h3; exact fin _ z h1 (.inr ⟨m, el, n, h2, h3, rfl⟩) hc
      · cases hc
    · cases hc
  case fieldAddr t x fi =>
    simp only [cOp] at hc
    split at hc <;> try (cases hc)
    rename_i fs x' h1 h2
    split at hc <;> try (cases hc)
    rename_i fd h3
    split at hc <;> try (cases hc)
    rename_i n h4
    split at hc <;> try (cases hc)
    rename_i h5
    have hav := ha x x' h2
    simp only [step] at hs
    split at hs
    · rename_i b o hb; cases hs
      rw [hb] at hav
      obtain ⟨L, q1, q2⟩ := hav.ptr_inv
      refine ⟨rfl, .pointer (some ⟨L.blk, o + fd.offset + L.shift, none⟩), ?_, ⟨L, q1, rfl, rfl⟩⟩
      simp only [execOp, Sem.run_bind, q2, Instr.fieldAt, run_und h1, Result.andThen_ok, h3, Instr.sureAddr, Sem.run_pure, fieldPlace, run_sz h4]
      rw [if_neg h5]
      simp only [Sem.run_pure, Result.andThen_ok, add_at]
      rw [show o + L.shift + fd.offset = o + fd.offset + L.shift by omega]
    · cases hs
  case indexAddr t x ix =>
    simp only [cOp] at hc
    split at hc <;> try (cases hc)
    · rename_i el x' i' h1 h2 h3
      split at hc <;> cases hc
      rename_i n h4
      have hav := ha x x' h2
      have hiv := ha ix i' h3
      simp only [step] at hs
      split at hs
      · rename_i b o m c k hb hn
        split at hs
        · rename_i hlt; cases hs
          rw [hb] at hav
          obtain ⟨L, o', c', q1, q2, q3, q4, q5, q6, q7⟩ := hav.slice_inv
          obtain ⟨kk, q8⟩ := natOf_inv hn hiv
          have ho := q6 (by omega)
          refine ⟨rfl, .pointer (some ⟨L.blk, o + k * n + L.shift, none⟩), ?_, ⟨L, q1, rfl, rfl⟩⟩
          simp only [execOp, Sem.run_bind, q2, q8, Instr.indexAt, asIntOf, Sem.run_pure, run_und h1, Result.andThen_ok]
          rw [if_pos ⟨by omega, by omega⟩]
          simp only [run_sz h4, Sem.run_bind, Result.andThen_ok, Sem.run_pure, add_at, Int.toNat_natCast]
          rw [show o' + k * n = o + k * n + L.shift by omega]
        · cases hs
      · cases hs
    · rename_i len el x' i' h1 h2 h3
      split at hc <;> cases hc
      rename_i n h4
      have hav := ha x x' h2
      have hiv := ha ix i' h3
      simp only [step] at hs
      split at hs
      · rename_i b o k hb hn
        split at hs
        · rename_i hlt; cases hs
          rw [hb] at hav
          obtain ⟨L, q1, q2⟩ := hav.ptr_inv
          obtain ⟨kk, q8⟩ := natOf_inv hn hiv
          refine ⟨rfl, .pointer (some ⟨L.blk, o + k * n + L.shift, none⟩), ?_, ⟨L, q1, rfl, rfl⟩⟩
          simp only [execOp, Sem.run_bind, q2, q8, Instr.indexAt, asIntOf, Sem.run_pure, run_und h1, Result.andThen_ok, Instr.sureAddr]
          rw [if_pos ⟨by omega, by omega⟩]
          simp only [run_sz h4, Sem.run_bind, Result.andThen_ok, Sem.run_pure, add_at, Int.toNat_natCast]
          rw [show o + L.shift + k * n = o + k * n + L.shift by omega]
        · cases hs
      · cases hs
  case field t x fi =>
    simp only [cOp] at hc
    split at hc <;> try (cases hc)
    rename_i fs x' h1 h2
    split at hc <;> try (cases hc)
    rename_i fd h3
    split at hc <;> cases hc
    rename_i n g h4 h5
    have hav := ha x x' h2
    simp only [step] at hs
    split at hs
    · rename_i cs hb
      split at hs
      · rename_i u hp; cases hs
        rw [hb] at hav
        obtain ⟨cs', q1, q2⟩ := hav.agg_inv
        obtain ⟨v', r1, r2⟩ := part_sound (P := P) (w := w) h4 h5 q2 hp
        exact ⟨rfl, v', by simp [execOp, q1, Instr.field, run_und h1, h3, asAgg, r1], r2⟩
      · cases hs
    · cases hs
  case index t x ix =>
    simp only [cOp] at hc
    split at hc <;> try (cases hc)
    · rename_i len el x' i' h1 h2 h3
      split at hc <;> cases hc
      rename_i n g h4 h5
      have hav := ha x x' h2
      have hiv := ha ix i' h3
      simp only [step] at hs
      split at hs
      · rename_i cs k hb hn
        split at hs
        · rename_i hlt
          split at hs
          · rename_i u hp; cases hs
            rw [hb] at hav
            obtain ⟨cs', q1, q2⟩ := hav.agg_inv
            obtain ⟨kk, q8⟩ := natOf_inv hn hiv
            obtain ⟨v', r1, r2⟩ := part_sound (P := P) (w := w) h4 h5 q2 hp
            refine ⟨rfl, v', ?_, r2⟩
            simp only [execOp, Sem.run_bind, q1, q8, Instr.index, asIntOf, Sem.run_pure, run_und h1, Result.andThen_ok]
            rw [if_pos ⟨by omega, by omega⟩]
            simp only [Sem.run_bind, run_sz h4, Result.andThen_ok, Int.toNat_natCast, r1, Sem.run_pure]
          · cases hs
        · cases hs
      · cases hs
    · rename_i x' i' h1 h2 h3
      have hav := ha x x' h2
      have hiv := ha ix i' h3
      simp only [step] at hs
      split at hs
      · rename_i s k hb hn
        split at hs
        · rename_i bt hget; cases hs
          rw [hb] at hav
          obtain ⟨kk, q8⟩ := natOf_inv hn hiv
          refine ⟨rfl, .int .u8 (bt.toNat : Int), ?_, (V1.of_flat (v := .int .u8 _) rfl).three⟩
          have hget' : s[k]? = some bt := by
            rw [Array.getElem?_toList] at hget
            obtain ⟨hk, he⟩ := Array.getElem?_eq_some_iff.1 hget
            rw [getElem?_pos s k hk]
            exact congrArg some he
          simp only [execOp, Sem.run_bind, hav.string_inv, q8, Instr.index, asIntOf, Sem.run_pure, run_und h1, Result.andThen_ok]
          rw [if_pos (by omega)]
          simp [hget']
        · cases hs
      · cases hs
  case extract x ix =>
    simp only [cOp, Option.map_eq_some_iff] at hc
    obtain ⟨a, h1, rfl⟩ := hc
    have hav := ha x a h1
    simp only [step] at hs
    split at hs
    · rename_i vs hb
      split at hs
      · rename_i u hg; cases hs
        rw [hb] at hav
        obtain ⟨vs', q1, q2⟩ := hav.tuple_inv
        obtain ⟨v', r1, r2⟩ := q2.get hg
        have r1' : vs'[ix]? = some v' := by simpa using r1
        exact ⟨rfl, v', by simp [execOp, q1, Instr.extract, r1'], r2.three⟩
      · cases hs
    · cases hs
  case call c =>
    obtain ⟨callee, args, argTypes⟩ := c
    simp only [cOp] at hc
    cases callee
    case value g =>
      cases g <;> simp at hc <;> obtain ⟨_, _, rfl⟩ := hc <;> simp [isEff] at k2
    case invoke => cases hc
    case builtin b =>
      simp only at hc
      split at hc <;> try (cases hc)
      rename_i xs h1
      have hxs := args_sound ha h1
      have hlen : args.size = xs.length := by have := cArgs_get h1; rw [← Array.length_toList]; exact this
      have sem : ∀ (v' : Value), (builtin b argTypes ty (args.map fun | .const _ => true | _ => false) (args.map f)).run P w = .ok (.value v') w →
          (execOp f ⟨dst, .call ⟨.builtin b, args, argTypes⟩, ty, pos, after, guard⟩).run P w = .ok (.value v') w := by
        intro v' h
        simp only [execOp, resolve, Sem.run_bind, Sem.run_pure, Result.andThen_ok, invoke]
        exact h
      have htl : ∀ tl, argTypes.toList = tl → argTypes = tl.toArray := fun tl h => by rw [← h]
      have two : ∀ x y, xs = [x, y] → ∃ x' y', args.map f = #[x', y'] ∧ V3 ρ (ev e x) x' ∧ V3 ρ (ev e y) y' := by
        intro x y hx
        subst hx
        obtain ⟨x', l, q1, q2, q3⟩ := hxs.cons_left
        obtain ⟨y', l', rfl, q5, q6⟩ := q3.cons_left
        obtain rfl := q6.nil_left
        exact ⟨x', y', by apply Array.ext'; simpa using q1, q2, q5⟩
      have one : ∀ x, xs = [x] → ∃ x', args.map f = #[x'] ∧ V3 ρ (ev e x) x' := by
        intro x hx
        subst hx
        obtain ⟨x', l, q1, q2, q3⟩ := hxs.cons_left
        obtain rfl := q3.nil_left
        exact ⟨x', by apply Array.ext'; simpa using q1, q2⟩
      cases b <;> simp only [cBuiltin] at hc <;> try (cases hc; done)
      case append => unfold cApp at hc; repeat' split at hc
                     all_goals first | (cases hc; done) | (cases hc; simp [isEff] at k2; done)
      case copy => unfold cCopy at hc; repeat' split at hc
                   all_goals first | (cases hc; done) | (cases hc; simp [isEff] at k2; done)
      case clear =>
        unfold cClear at hc; repeat' split at hc
        all_goals first | (cases hc; done) | (simp only [Option.map_eq_some_iff] at hc; obtain ⟨_, _, rfl⟩ := hc; simp [isEff] at k2; done)
      case len =>
        unfold cLen at hc
        split at hc
        · rename_i t x h2
          obtain ⟨x', h3, h4⟩ := one x rfl
          have hty := htl _ h2
          split at hc <;> cases hc
          · rename_i h5
            simp only [step] at hs
            split at hs
            · rename_i s hv; cases hs
              refine ⟨rfl, .int .i64 (s.size : Int), sem _ ?_, (V1.of_flat (v := .int .i64 _) rfl).three⟩
              rw [hv] at h4; rw [h3, hty, h4.string_inv]; simp [builtin, Builtin.len_, run_und h5, goInt]
            · cases hs
          · rename_i el h5
            simp only [step] at hs
            split at hs
            · rename_i a n c hv; cases hs
              refine ⟨rfl, .int .i64 (n : Int), sem _ ?_, (V1.of_flat (v := .int .i64 _) rfl).three⟩
              rw [hv] at h4; rw [h3, hty]
              cases a with
              | none => obtain ⟨rfl, rfl, q⟩ := h4.nil_inv; rw [q]; simp [builtin, Builtin.len_, run_und h5, goInt]
              | some ad => obtain ⟨L, o', c', _, _, q, _⟩ := h4; rw [q]; simp [builtin, Builtin.len_, run_und h5, goInt]
            · cases hs
          · rename_i n el h5
            simp only [step] at hs
            cases hs
            refine ⟨rfl, .int .i64 (n : Int), sem _ ?_, (V1.of_flat (v := .int .i64 _) rfl).three⟩
            rw [h3, hty]; simp [builtin, Builtin.len_, run_und h5, goInt]
        · cases hc
      case cap =>
        unfold cCap at hc
        split at hc
        · rename_i t x h2
          obtain ⟨x', h3, h4⟩ := one x rfl
          have hty := htl _ h2
          split at hc <;> cases hc
          rename_i el h5
          simp only [step] at hs
          split at hs
          · rename_i a n c hv
            rw [hv] at h4
            cases a with
            | none =>
              obtain ⟨rfl, rfl, q⟩ := h4.nil_inv
              rw [if_pos rfl] at hs; cases hs
              refine ⟨rfl, .int .i64 0, sem _ ?_, (V1.of_flat (v := .int .i64 _) rfl).three⟩
              rw [h3, hty, q]; simp [builtin, Builtin.cap_, run_und h5, goInt]
            | some ad =>
              obtain ⟨L, o', c', _, _, q, q1, q2, q3, q4⟩ := h4
              rw [if_neg (by simp)] at hs
              · split at hs
                · rename_i hodd; cases hs
                  refine ⟨rfl, .int .i64 ((c / 2 : Nat) : Int), sem _ ?_, (V1.of_flat (v := .int .i64 _) rfl).three⟩
                  rw [h3, hty, q, q3 hodd]; simp [builtin, Builtin.cap_, run_und h5, goInt]
                · cases hs
          · cases hs
        · cases hc
      case min =>
        unfold cMM at hc
        split at hc
        · rename_i x y; cases hc
          obtain ⟨x', y', h3, h4, h5⟩ := two x y rfl
          simp only [step] at hs
          split at hs
          · rename_i k a k' b h6 h7; cases hs
            rw [h6] at h4; rw [h7] at h5
            refine ⟨rfl, _, sem _ ?_, (V1.of_flat (v := .int k _) rfl).three⟩
            rw [h3, h4.int_inv, h5.int_inv]; simp [builtin, Builtin.min_, Builtin.min2]
          · cases hs
        · cases hc
      case max =>
        unfold cMM at hc
        split at hc
        · rename_i x y; cases hc
          obtain ⟨x', y', h3, h4, h5⟩ := two x y rfl
          simp only [step] at hs
          split at hs
          · rename_i k a k' b h6 h7; cases hs
            rw [h6] at h4; rw [h7] at h5
            refine ⟨rfl, _, sem _ ?_, (V1.of_flat (v := .int k _) rfl).three⟩
            rw [h3, h4.int_inv, h5.int_inv]; simp [builtin, Builtin.max_, Builtin.max2]
          · cases hs
        · cases hc
  all_goals first
    | (simp only [cOp] at hc; cases hc; done)
    | (simp only [cOp, Option.map_eq_some_iff] at hc; obtain ⟨_, _, rfl⟩ := hc; simp [isAl] at k1; done)
    | (simp only [cOp] at hc; repeat' split at hc
       all_goals first | (cases hc; done) | (cases hc; simp [isAl, isEff] at k1 k2; done) | (simp only [Option.map_eq_some_iff] at hc; obtain ⟨_, _, rfl⟩ := hc; simp [isAl, isEff] at k1 k2; done))
    | trace_state
end
end Go.AM
