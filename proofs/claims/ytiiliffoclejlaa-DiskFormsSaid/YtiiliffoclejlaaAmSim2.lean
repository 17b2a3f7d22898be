/- AM: running drawn regions by rewriting; more of texts and heaps. -/
import Derived.Test.YtiiliffoclejlaaAmExt
namespace Go.AM
set_option linter.unusedVariables false
set_option linter.unusedSimpArgs false
def contTr (P : Program) (C : CallF) (is : List Ir) (d : Option Nat) (e : Env) (r : Option (Value × Heap)) : Option (List (Env × Heap)) := match r with | some (v, H) => runTr P C is (put d v e) H | none => none
@[simp] theorem contTr_some (P : Program) (C : CallF) (is : List Ir) (d : Option Nat) (e : Env) (v : Value) (H : Heap) : contTr P C is d e (some (v, H)) = runTr P C is (put d v e) H := rfl
def consO (p : Env × Heap) (r : Option (List (Env × Heap))) : Option (List (Env × Heap)) := match r with | some l => some (p :: l) | none => none
@[simp] theorem consO_some (p : Env × Heap) (l : List (Env × Heap)) : consO p (some l) = some (p :: l) := rfl
@[simp] theorem runTr_nil (P : Program) (C : CallF) (e : Env) (H : Heap) : runTr P C [] e H = some [(e, H)] := rfl
@[simp] theorem runTr_cons (P : Program) (C : CallF) (d : Option Nat) (i : Ins) (is : List Ir) (e : Env) (H : Heap) :
    runTr P C (⟨d, none, i⟩ :: is) e H = consO (e, H) (contTr P C is d e (step P C i e H)) := by
  simp only [runTr, stepIr, wanted, if_true]
  cases step P C i e H with
  | none => rfl
  | some q => simp only [contTr, consO]; cases runTr P C is (put d q.1 e) q.2 <;> rfl
@[simp] theorem runTr_cons_g (P : Program) (C : CallF) (d : Option Nat) (g : Nat) (w : Bool) (i : Ins) (is : List Ir) (e : Env) (H : Heap) :
    runTr P C (⟨d, some (g, w), i⟩ :: is) e H = if isB (e g) w = true then consO (e, H) (contTr P C is d e (step P C i e H)) else consO (e, H) (runTr P C is (put d undef e) H) := by
  have hw : wanted ⟨d, some (g, w), i⟩ e = isB (e g) w := rfl
  simp only [runTr, stepIr, hw]
  by_cases h : isB (e g) w = true
  · rw [if_pos h, if_pos h]
    cases step P C i e H with
    | none => rfl
    | some q => simp only [contTr, consO]; cases runTr P C is (put d q.1 e) q.2 <;> rfl
  · rw [if_neg h, if_neg h]; simp only [consO]; cases runTr P C is (put d undef e) H <;> rfl
open Classical in
noncomputable def finD (P : Program) (is : List Ir) (ch : List (Nat × Nat)) (r : Option (List (Env × Heap))) : Option (Env × Heap) :=
  match r with
  | some tr => if ∀ p ∈ ch, Chk P is tr p then tr.getLast? else none
  | none => none
open Classical in
theorem finD_some (P : Program) (is : List Ir) (ch : List (Nat × Nat)) (tr : List (Env × Heap)) : finD P is ch (some tr) = if ∀ p ∈ ch, Chk P is tr p then tr.getLast? else none := rfl
theorem run_regd_tr (K : Cfg) (is : List Ir) (p : Nat × Nat) (ch : List (Nat × Nat)) (e : Env) (H : Heap) : run K (.regd is (p :: ch)) e H = ok2 (finD K.P is (p :: ch) (runTr K.P (call K) is e H)) := by rw [run_regd]; rfl
theorem Chk_intro {P : Program} {is : List Ir} {tr : List (Env × Heap)} {p : Nat × Nat} {i : Ir} {e e' : Env} {H G : Heap} (h1 : is[p.1]? = some i) (h2 : tr[p.1]? = some (e, H)) (h3 : tr[p.2 + 1]? = some (e', G))
    (h : wanted i e = true → (step P (fun _ _ _ => none) i.ins e G).map Prod.fst = (step P (fun _ _ _ => none) i.ins e H).map Prod.fst) : Chk P is tr p := by
  unfold Chk; rw [h1, h2, h3]; exact h
theorem regd_intro {K : Cfg} {is : List Ir} {ch : List (Nat × Nat)} {e : Env} {H : Heap} {tr : List (Env × Heap)} {Q : IEx → Env → Heap → Prop} {x : Env × Heap}
    (h1 : runTr K.P (call K) is e H = some tr) (h2 : ∀ p ∈ ch, Chk K.P is tr p) (h3 : tr.getLast? = some x) (hq : Q .norm x.1 x.2) : wp (run K (.regd is ch) e H) Q := by
  rw [run_regd]
  refine ⟨.norm, x.1, x.2, ?_, hq⟩
  unfold runD
  rw [h1]; simp only [if_pos h2, h3]; rfl
end Go.AM
