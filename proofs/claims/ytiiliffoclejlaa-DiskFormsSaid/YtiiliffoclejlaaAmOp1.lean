/- AM: operations that write nothing: what they answer in the model. -/
import Derived.Test.YtiiliffoclejlaaAmMem
import Derived.Laws.BytesString
import Derived.Laws.Slices
import Derived.Laws.StructEq
namespace Go.AM
set_option linter.unusedVariables false
set_option linter.unusedSimpArgs false

structure EnvR (ρ : Rho) (e : Env) (a : Act) (N : Nat) : Prop where
  defers : a.defers = []
  size : a.tmps.size = N
  slot : ∀ t, V3 ρ (e t) (a.tmps.getD t undef)
theorem EnvR.mono {ρ ρ' : Rho} {e : Env} {a : Act} {N : Nat} (h : EnvR ρ e a N) (hl : RhoLe ρ ρ') : EnvR ρ' e a N := ⟨h.defers, h.size, fun t => (h.slot t).mono hl⟩
/-- The operands' values in pairs. -/
def ArgR (ρ : Rho) (e : Env) (f : Operand → Value) : Prop := ∀ x y, cArg x = some y → V3 ρ (ev e y) (f x)
theorem EnvR.arg {ρ : Rho} {e : Env} {a : Act} {N : Nat} (h : EnvR ρ e a N) : ArgR ρ e a.eval := by
  intro x y hc
  cases x with
  | tmp n => simp only [cArg, Option.some.injEq] at hc; subst hc; exact h.slot n
  | const v =>
    simp only [cArg] at hc
    split at hc
    · rename_i hf; cases hc; exact V3.of_flat hf
    · cases hc
  | func f => simp only [cArg, Option.some.injEq] at hc; subst hc; exact V3.of_flat (v := .func (.func f) #[] #[]) rfl
  | global g => cases hc
theorem args_sound {ρ : Rho} {e : Env} {f : Operand → Value} (h : ArgR ρ e f) : ∀ {xs : List Operand} {ys : List Arg}, cArgs xs = some ys → All2 (V3 ρ) (ys.map (ev e)) (xs.map f)
  | [], ys, hc => by cases hc; exact trivial
  | x :: xs, ys, hc => by
    simp only [cArgs] at hc
    split at hc
    · rename_i a l h1 h2; cases hc; exact ⟨h x a h1, args_sound h h2⟩
    · cases hc
section
variable {P : Program} {w : World}
theorem pv_run {α : Type} : ∀ (s : Sem α) {a : α}, pv P s = some a → s.run P w = .ok a w
  | .pure a, _, h => by cases h; rfl
  | .program k, _, h => pv_run (k P) h
  | .mark m k, _, h => pv_run k h
  | .load .., _, h | .store .., _, h | .new .., _, h | .shape .., _, h | .freeze .., _, h | .frozen .., _, h | .getObj .., _, h | .setObj .., _, h | .choose .., _, h | .sys .., _, h | .halt _, _, h => by cases h
theorem run_und {t : TypeId} {d : TypeDesc} (h : P.underlying t = some d) : (underlying t).run P w = .ok d w := by simp [underlying, h]
theorem run_sz {t : TypeId} {n : Nat} (h : szOf P t = some n) : (sizeOf t).run P w = .ok n w := by
  unfold szOf at h
  cases hi : P.info? t with
  | none => rw [hi] at h; cases h
  | some i => rw [hi] at h; cases h; simp [sizeOf, typeInfo, hi]
theorem run_info {t : TypeId} {i : TypeInfo} (h : P.info? t = some i) : (typeInfo t).run P w = .ok i w := by simp [typeInfo, h]
theorem run_agg {t : TypeId} {b : Bool} (h : aggOf P t = some b) : (isAgg t).run P w = .ok b w := by
  unfold aggOf at h
  cases hu : P.underlying t with
  | none => rw [hu] at h; cases h
  | some d =>
    rw [hu] at h
    simp only [isAgg, Sem.run_bind, run_und hu, Result.andThen_ok]
    cases d <;> simp at h <;> subst h <;> rfl
theorem zero_inv {t : TypeId} {z : List Value} (h : zeroOf P t = some z) : ∃ i v, P.info? t = some i ∧ i.zero = some v ∧ v.cells.toList = z ∧ i.size = z.length ∧ z.all flat1 = true ∧ z.all Value.oneCell' = true := by
  unfold zeroOf szOf at h
  cases hi : P.info? t with
  | none => rw [hi] at h; cases h
  | some i =>
    rw [hi] at h
    simp only [Option.bind_some, Option.map_some] at h
    cases hz : i.zero with
    | none => rw [hz] at h; cases h
    | some v =>
      rw [hz] at h
      simp only at h
      split at h
      · rename_i hc; cases h; exact ⟨i, v, rfl, hz, rfl, hc.1.symm, hc.2.1, hc.2.2⟩
      · cases h
theorem run_zero {t : TypeId} {i : TypeInfo} {v : Value} (h : P.info? t = some i) (hz : i.zero = some v) : (zeroValue t).run P w = .ok v w := by simp [zeroValue, run_info h, hz]
theorem szOf_zero {t : TypeId} {z : List Value} (h : zeroOf P t = some z) : szOf P t = some z.length := by
  obtain ⟨i, v, h1, _, _, h2, _⟩ := zero_inv h
  unfold szOf; rw [h1]; simp [h2]

theorem natOf_inv {ρ : Rho} {v v' : Value} {n : Nat} (h : natOf v = some n) (hv : V3 ρ v v') : ∃ k, v' = .int k (n : Int) := by
  cases v <;> simp [natOf] at h
  rename_i k m
  obtain ⟨h0, rfl⟩ := h
  refine ⟨k, ?_⟩
  rw [hv.int_inv, Int.toNat_of_nonneg h0]

theorem part_sound {ρ : Rho} {t : TypeId} {off n : Nat} {b : Bool} {cs cs' : Array Value} {v : Value} (hz : szOf P t = some n) (hb : aggOf P t = some b) (hc : All2 (V1 ρ) cs.toList cs'.toList) (h : partL off n b cs.toList = some v) :
    ∃ v', (part t cs' off).run P w = .ok v' w ∧ V3 ρ v v' := by
  unfold partL at h
  cases b with
  | true =>
    simp only [if_true] at h; cases h
    refine ⟨.agg (cs'.extract off (off + n)), by simp [part, run_agg hb, run_sz hz], ?_⟩
    refine ⟨_, rfl, ?_⟩
    have : (cs'.extract off (off + n)).toList = (cs'.toList.drop off).take n := by simp [Array.toList_extract, List.extract_eq_take_drop]
    rw [this]
    exact (hc.drop off).take n
  | false =>
    simp only [Bool.false_eq_true, if_false] at h
    obtain ⟨v', h1, h2⟩ := hc.get h
    refine ⟨v', ?_, h2.three⟩
    have : cs'[off]? = some v' := by simpa using h1
    simp [part, run_agg hb, this]

theorem eqGuard_any {op : BinOp} {t : TypeId} {x y : Operand} {a b : Value} (h : bothNilIface a b = false) : eqGuard op t x y a b = eqGuard op t (.tmp 0) (.tmp 0) a b := by
  unfold eqGuard
  cases a <;> cases b <;> first | rfl | (simp [bothNilIface] at h)
theorem flat_of2 {a : Value} (f1 : flat2 a = true) : AM.flat a = true := by cases a <;> first | exact f1 | (simp [flat2, flat1] at f1)
theorem flat2_of1 {a : Value} (f1 : flat1 a = true) : flat2 a = true := by cases a <;> first | exact f1 | (simp [flat1] at f1)
theorem flatRes_inv {r : Option Value} {v : Value} (h : flatRes r = some v) : r = some v ∧ flat1 v = true := by
  cases r with
  | none => cases h
  | some u =>
    simp only [flatRes] at h
    split at h
    · rename_i hf; cases h; exact ⟨rfl, hf⟩
    · cases h
theorem run_equal_ptr {t e : TypeId} (hu : P.underlying t = some (.pointer e)) (p : Option Addr) : (Op.equal t (.pointer p) (.pointer none)).run P w = .ok (isNilV (.pointer p)) w := by
  unfold Op.equal Op.maxDepth
  rw [show (10000 : Nat) = 9999 + 1 from rfl, Op.equalIn.eq_2]
  generalize Op.equalIn 9999 = F
  cases p <;> (rw [Sem.run_bind, run_und hu]; rfl)
theorem run_equal_slice {t e : TypeId} (hu : P.underlying t = some (.slice e)) (p : Option Addr) (n c n' c' : Nat) : (Op.equal t (.slice p n c) (.slice none n' c')).run P w = .ok (isNilV (.slice p n c)) w := by
  unfold Op.equal Op.maxDepth
  rw [show (10000 : Nat) = 9999 + 1 from rfl, Op.equalIn.eq_2]
  generalize Op.equalIn 9999 = F
  cases p <;> (rw [Sem.run_bind, run_und hu]; rfl)
theorem run_nilcmp {t : TypeId} {op : BinOp} {a y v : Value} {o1 o2 : Operand} (hn : nilSort (P.underlying t) a y = true) (h : nilCmp op (isNilV a) = some v) :
    (do eqGuard op t o1 o2 a y; binOp op t a y : Sem Value).run P w = .ok v w := by
  cases a <;> cases y <;> simp [nilSort] at hn
  case pointer.pointer p q =>
    cases q with
    | some q => simp [nilSort] at hn
    | none =>
      cases hu : P.underlying t with
      | none => rw [hu] at hn; simp at hn
      | some d =>
        rw [hu] at hn
        cases d <;> simp at hn
        cases op <;> simp [nilCmp] at h <;> subst h <;> simp [eqGuard, binOp, run_equal_ptr hu]
  case slice.slice p n c q n' c' =>
    cases q with
    | some q => simp [nilSort] at hn
    | none =>
      cases hu : P.underlying t with
      | none => rw [hu] at hn; simp at hn
      | some d =>
        rw [hu] at hn
        cases d <;> simp at hn
        cases op <;> simp [nilCmp] at h <;> subst h <;> simp [eqGuard, binOp, run_equal_slice hu]
theorem nilCmp_flat {op : BinOp} {b : Bool} {v : Value} (h : nilCmp op b = some v) : flat1 v = true := by
  cases op <;> simp [nilCmp] at h <;> subst h <;> rfl
theorem bin_sound {ρ : Rho} {op : BinOp} {t : TypeId} {x y : Operand} {a b a' b' v : Value} (h : binV P op t a b = some v) (ha : V3 ρ a a') (hb : V3 ρ b b') :
    ∃ v', (do eqGuard op t x y a' b'; binOp op t a' b' : Sem Value).run P w = .ok v' w ∧ V3 ρ v v' := by
  unfold binV at h
  by_cases hf : (flat2 a && flat2 b && !bothNilIface a b) = true
  · rw [if_pos hf] at h
    simp only [Bool.and_eq_true, Bool.not_eq_true'] at hf
    obtain ⟨⟨f1, f2⟩, f3⟩ := hf
    obtain rfl := ha.flat (flat_of2 f1)
    obtain rfl := hb.flat (flat_of2 f2)
    obtain ⟨h1, h2⟩ := flatRes_inv h
    rw [eqGuard_any f3]
    exact ⟨v, pv_run _ h1, (V1.of_flat h2).three⟩
  · rw [if_neg hf] at h
    by_cases hn : nilSort (P.underlying t) a b = true
    · rw [if_pos hn] at h
      refine ⟨v, run_nilcmp (a := a') (y := b') ?_ ?_, (V1.of_flat (nilCmp_flat h)).three⟩
      · cases a <;> cases b <;> simp [nilSort] at hn
        case pointer.pointer p q =>
          cases q with
          | some q => simp [nilSort] at hn
          | none =>
            obtain rfl : b' = .pointer none := hb.2
            cases p with
            | none => obtain rfl : a' = .pointer none := ha.2; exact hn
            | some p => obtain ⟨L, _, _, rfl⟩ := ha; exact hn
        case slice.slice p n c q n' c' =>
          cases q with
          | some q => simp [nilSort] at hn
          | none =>
            obtain ⟨rfl, rfl, rfl⟩ := hb.nil_inv
            cases p with
            | none => obtain ⟨rfl, rfl, rfl⟩ := ha.nil_inv; exact hn
            | some p => obtain ⟨L, _, _, _, _, rfl, _⟩ := ha; exact hn
      · have : isNilV a' = isNilV a := by
          cases a <;> cases b <;> simp [nilSort] at hn
          case pointer.pointer p q =>
            cases p with
            | none => obtain rfl : a' = .pointer none := ha.2; rfl
            | some p => obtain ⟨L, _, _, rfl⟩ := ha; rfl
          case slice.slice p n c q n' c' =>
            cases p with
            | none => obtain ⟨rfl, rfl, rfl⟩ := ha.nil_inv; rfl
            | some p => obtain ⟨L, _, _, _, _, rfl, _⟩ := ha; rfl
        rw [this]; exact h
    · rw [if_neg hn] at h; cases h
/-! ### '==' of structs -/
theorem cellsEq_len : ∀ {ss : List Srt} {xs ys : List Value} {b : Bool}, cellsEq ss xs ys = some b → xs.length = ss.length ∧ ys.length = ss.length
  | [], [], [], _, _ => ⟨rfl, rfl⟩
  | s :: ss, x :: xs, y :: ys, b, h => by
    simp only [cellsEq] at h
    split at h
    · rename_i p q h1 h2; have := cellsEq_len h2; simp [this]
    · cases h
theorem cellsEq_append : ∀ {ss ss' : List Srt} {xs ys : List Value} {b : Bool}, cellsEq (ss ++ ss') xs ys = some b → ∃ b1 b2, cellsEq ss (xs.take ss.length) (ys.take ss.length) = some b1 ∧ cellsEq ss' (xs.drop ss.length) (ys.drop ss.length) = some b2 ∧ b = (b1 && b2)
  | [], ss', xs, ys, b, h => ⟨true, b, rfl, by simpa using h, by simp⟩
  | s :: ss, ss', [], ys, b, h => by cases h
  | s :: ss, ss', x :: xs, [], b, h => by cases h
  | s :: ss, ss', x :: xs, y :: ys, b, h => by
    simp only [List.cons_append, cellsEq] at h
    split at h
    · rename_i p q h1 h2; cases h
      obtain ⟨b1, b2, h3, h4, rfl⟩ := cellsEq_append h2
      refine ⟨p && b1, b2, ?_, by simpa using h4, by rw [Bool.and_assoc]⟩
      simp [cellsEq, h1, h3]
    · cases h
theorem dec_beq_bytes (a b : ByteArray) : (a.toList == b.toList) = decide (a = b) := by
  by_cases h : a = b
  · subst h; simp
  · have : a.toList ≠ b.toList := by
      intro e
      rw [ByteArray.toList_eq, ByteArray.toList_eq] at e
      apply h
      obtain ⟨⟨x⟩⟩ := a
      obtain ⟨⟨y⟩⟩ := b
      have e' : x = y := e
      rw [e']
    simp [h, this]
/-- What stands in a struct's part. -/
def partV (P : Program) (t : TypeId) (cs : List Value) : Option Value := if isStruct P t then some (.agg cs.toArray) else cs[0]?
theorem part_v {t : TypeId} {n off : Nat} {xs : Array Value} {v : Value} (hz : szOf P t = some n) (hg : isStruct P t = true ∨ aggOf P t = some false) (hn : 0 < n ∨ isStruct P t = true) (h : partV P t ((xs.toList.drop off).take n) = some v) : (part t xs off).run P w = .ok v w := by
  unfold partV at h
  by_cases hs : isStruct P t = true
  · rw [if_pos hs] at h
    cases h
    have hag : aggOf P t = some true := by
      unfold isStruct at hs; unfold aggOf
      cases hu : P.underlying t with
      | none => rw [hu] at hs; cases hs
      | some d => rw [hu] at hs; cases d <;> simp at hs; rfl
    have : xs.extract off (off + n) = ((xs.toList.drop off).take n).toArray := by apply Array.ext'; simp [Array.toList_extract, List.extract_eq_take_drop]
    simp [part, run_agg hag, run_sz hz, this]
  · rw [if_neg hs] at h
    have hg' : aggOf P t = some false := hg.resolve_left hs
    have hn' := hn.resolve_right hs
    rw [List.getElem?_take_of_lt hn', List.getElem?_drop] at h
    have : xs[off]? = some v := by simpa using h
    simp [part, run_agg hg', this]
theorem eqT_one {d : Nat} {t : TypeId} {ss : List Srt} (h : eqT P d t = some ss) : isStruct P t = true ∨ (aggOf P t = some false ∧ ∃ s, ss = [s]) := by
  cases d with
  | zero => cases h
  | succ d =>
    simp only [eqT] at h
    unfold isStruct aggOf
    cases hu : P.underlying t with
    | none => rw [hu] at h; cases h
    | some ds =>
      rw [hu] at h
      cases ds <;> simp only at h <;> try (cases h; done)
      case bool => cases h; exact .inr ⟨rfl, _, rfl⟩
      case int k => cases h; exact .inr ⟨rfl, _, rfl⟩
      case string => cases h; exact .inr ⟨rfl, _, rfl⟩
      case struct => exact .inl rfl
theorem eq_sound : ∀ (d D : Nat) (t : TypeId) {ss : List Srt} {cx cy : List Value} {x y : Value} {b : Bool}, d ≤ D → eqT P d t = some ss → partV P t cx = some x → partV P t cy = some y → cellsEq ss cx cy = some b → (Op.equalIn D t x y).run P w = .ok b w
  | 0, _, _, _, _, _, _, _, _, _, h, _, _, _ => by cases h
  | d + 1, 0, _, _, _, _, _, _, _, hD, _, _, _, _ => by omega
  | d + 1, D + 1, t, ss, cx, cy, x, y, b, hD, h, hx, hy, hb => by
    simp only [eqT] at h
    cases hu : P.underlying t with
    | none => rw [hu] at h; cases h
    | some ds =>
      rw [hu] at h
      have basic : ∀ s, isStruct P t = false → ss = [s] → ∃ r, cellEq s x y = some r ∧ b = r := by
        intro s hs e
        subst e
        cases cx with
        | nil => cases hb
        | cons u cx =>
          cases cy with
          | nil => cases hb
          | cons v cy =>
            simp [partV, hs] at hx hy
            subst hx hy
            simp only [cellsEq] at hb
            split at hb
            · rename_i p q h1 h2
              cases hb
              have := cellsEq_len h2
              simp at this
              obtain ⟨rfl, rfl⟩ := this
              cases h2
              exact ⟨p, h1, by simp⟩
            · cases hb
      cases ds <;> simp only at h <;> try (cases h; done)
      case bool =>
        obtain ⟨r, h1, rfl⟩ := basic .flag (by simp [isStruct, hu]) (by simpa using h.symm)
        cases x <;> cases y <;> simp [cellEq] at h1
        rw [run_equalIn_bool' w D t _ _ hu, ← h1]; rfl
      case int k =>
        obtain ⟨r, h1, rfl⟩ := basic (.num k) (by simp [isStruct, hu]) (by simpa using h.symm)
        cases x <;> cases y <;> simp [cellEq] at h1
        obtain ⟨⟨rfl, rfl⟩, h2⟩ := h1
        rw [run_equalIn_int w D t _ _ _ _ hu, ← h2]; rfl
      case string =>
        obtain ⟨r, h1, rfl⟩ := basic .txt (by simp [isStruct, hu]) (by simpa using h.symm)
        cases x <;> cases y <;> simp [cellEq] at h1
        rw [run_equalIn_string w D t _ _ hu, ← h1, dec_beq_bytes]
      case struct fs =>
        split at h
        case isTrue => cases h
        rename_i hst
        have hst' : P.stoodInHeld t = false := by simpa using hst
        have hs : isStruct P t = true := by simp [isStruct, hu]
        simp only [partV, hs, if_true, Option.some.injEq] at hx hy
        subst hx hy
        have hf : P.fieldsOf t = fs := by simp [Program.fieldsOf, hu]
        rw [run_equalIn_struct w D t _ _ (by rw [hf]; exact hu) hst', hf]
        have key : ∀ (l : List Field) (off : Nat) {ss : List Srt} {b : Bool}, eqFs P (eqT P d) l off = some ss → cellsEq ss (cx.drop off) (cy.drop off) = some b → (Op.eqFields D cx.toArray cy.toArray l).run P w = .ok b w := by
          intro l
          induction l with
          | nil => intro off ss b h1 h2; cases h1
                   cases hcx : cx.drop off <;> cases hcy : cy.drop off <;> rw [hcx, hcy] at h2 <;> cases h2
                   simp [Op.eqFields]
          | cons f l ih =>
            intro off ss b h1 h2
            simp only [eqFs] at h1
            split at h1
            case isTrue => cases h1
            rename_i hname
            split at h1
            case h_2 => cases h1
            rename_i sl m g1 g2
            split at h1
            case isFalse => cases h1
            rename_i hcond
            obtain ⟨rfl, rfl⟩ := hcond
            split at h1
            case h_2 => cases h1
            rename_i rs g3
            cases h1
            obtain ⟨b1, b2, q1, q2, rfl⟩ := cellsEq_append h2
            rw [List.drop_drop] at q2
            rw [List.drop_drop] at q2
            have ihr := ih _ g3 q2
            have hlen := cellsEq_len q1
            have one := eqT_one g1
            have hpos : 0 < sl.length ∨ isStruct P f.type = true := by
              rcases one with h | ⟨_, s, rfl⟩
              · exact .inr h
              · exact .inl (by simp)
            have hpart : ∀ c : List Value, (c.drop f.offset |>.take sl.length).length = sl.length → ∃ v, partV P f.type ((c.drop f.offset).take sl.length) = some v := by
              intro c hc
              unfold partV
              by_cases hsf : isStruct P f.type = true
              · rw [if_pos hsf]; exact ⟨_, rfl⟩
              · rw [if_neg hsf]
                have := hpos.resolve_right hsf
                exact ⟨_, List.getElem?_eq_getElem (by omega)⟩
            obtain ⟨vx, hvx⟩ := hpart cx hlen.1
            obtain ⟨vy, hvy⟩ := hpart cy hlen.2
            have px := part_v (P := P) (w := w) (xs := cx.toArray) g2 (one.imp id (·.1)) hpos hvx
            have py := part_v (P := P) (w := w) (xs := cy.toArray) g2 (one.imp id (·.1)) hpos hvy
            have he := eq_sound d D f.type (by omega) g1 hvx hvy q1
            simp only [Op.eqFields, if_pos hname, Sem.run_bind, px, py, he, Result.andThen_ok]
            cases b1
            · simp
            · simpa using ihr
        exact key fs.toList 0 h (by simpa using hb)
theorem eqa_sound {ρ : Rho} {neg : Bool} {ss : List Srt} {t : TypeId} {x y : Operand} {xs ys : Array Value} {a' b' : Value} {b : Bool} (hs : isStruct P t = true) (hg : P.eqGuardType P.depth t = false) (ht : eqT P 8 t = some ss) (ha : V3 ρ (.agg xs) a') (hb : V3 ρ (.agg ys) b')
    (h : cellsEq ss xs.toList ys.toList = some b) : (do eqGuard (if neg then .neq else .eql) t x y a' b'; binOp (if neg then .neq else .eql) t a' b' : Sem Value).run P w = .ok (.bool (b != neg)) w := by
  have flat : ∀ (ss : List Srt) (xs ys : List Value) (b : Bool), cellsEq ss xs ys = some b → xs.all flat1 = true ∧ ys.all flat1 = true := by
    intro ss
    induction ss with
    | nil => intro xs ys b h; cases xs <;> cases ys <;> first | (cases h; done) | exact ⟨rfl, rfl⟩
    | cons s ss ih =>
      intro xs ys b h
      cases xs with
      | nil => cases h
      | cons x xs =>
        cases ys with
        | nil => cases h
        | cons y ys =>
          simp only [cellsEq] at h
          split at h
          · rename_i p q h1 h2
            obtain ⟨i1, i2⟩ := ih _ _ _ h2
            have : flat1 x = true ∧ flat1 y = true := by
              cases s <;> cases x <;> cases y <;> simp [cellEq] at h1 <;> exact ⟨rfl, rfl⟩
            simp [this.1, this.2, i1, i2]
          · cases h
  obtain ⟨f1, f2⟩ := flat _ _ _ _ h
  obtain rfl := ha.flat (show AM.flat (.agg xs) = true from f1)
  obtain rfl := hb.flat (show AM.flat (.agg ys) = true from f2)
  have he : (Op.equal t (.agg xs) (.agg ys)).run P w = .ok b w := by
    unfold Op.equal
    have hp : ∀ zs : Array Value, partV P t zs.toList = some (.agg zs) := fun zs => by simp [partV, hs]
    exact eq_sound 8 Op.maxDepth t (by unfold Op.maxDepth; omega) ht (hp xs) (hp ys) h
  cases neg <;> simp [eqGuard, binOp, hg, he]
end
end Go.AM
