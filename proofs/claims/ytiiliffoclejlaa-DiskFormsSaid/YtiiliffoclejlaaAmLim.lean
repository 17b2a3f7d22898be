/- AM: running without a bound: the limit over the bounds, and its equations. -/
import Derived.Test.YtiiliffoclejlaaAmDefs
namespace Go.AM
set_option linter.unusedVariables false
open Classical

def Mono {α : Type} (g : Nat → Option α) : Prop := ∀ n m a, n ≤ m → g n = some a → g m = some a
noncomputable def lim {α : Type} (g : Nat → Option α) : Option α := if h : ∃ a n, g n = some a then some h.choose else none
theorem Mono.const {α : Type} (x : Option α) : Mono (fun _ => x) := fun _ _ _ _ h => h
theorem lim_of {α : Type} {g : Nat → Option α} (hg : Mono g) {n : Nat} {a : α} (h : g n = some a) : lim g = some a := by
  have hx : ∃ a n, g n = some a := ⟨a, n, h⟩
  unfold lim
  rw [dif_pos hx]
  obtain ⟨m, hm⟩ := hx.choose_spec
  have h1 := hg n (max n m) _ (Nat.le_max_left _ _) h
  have h2 := hg m (max n m) _ (Nat.le_max_right _ _) hm
  rw [h1] at h2
  exact congrArg some (Option.some.inj h2).symm
theorem of_lim {α : Type} {g : Nat → Option α} {a : α} (h : lim g = some a) : ∃ n, g n = some a := by
  unfold lim at h
  split at h
  · rename_i hx
    obtain ⟨m, hm⟩ := hx.choose_spec
    exact ⟨m, by rw [hm]; exact h⟩
  · cases h
theorem lim_none {α : Type} {g : Nat → Option α} (h : lim g = none) (n : Nat) : g n = none := by
  unfold lim at h
  split at h
  · cases h
  · rename_i hx
    cases hg : g n with
    | none => rfl
    | some a => exact absurd ⟨a, n, hg⟩ hx
theorem lim_const {α : Type} (x : Option α) : lim (fun _ => x) = x := by
  cases x with
  | none => unfold lim; split
            · rename_i h; obtain ⟨_, _, h⟩ := h; cases h
            · rfl
  | some a => exact lim_of (Mono.const _) (n := 0) rfl
theorem lim_ext {α : Type} {g h : Nat → Option α} (e : ∀ n, g n = h n) : lim g = lim h := by rw [funext e]
theorem lim_bind {α β : Type} {g : Nat → Option α} {f : Nat → α → Option β} (hg : Mono g) (hf : ∀ a, Mono (fun n => f n a)) :
    lim (fun n => (g n).bind (f n)) = (lim g).bind fun a => lim fun n => f n a := by
  have hm : Mono (fun n => (g n).bind (f n)) := by
    intro n m b hnm h
    obtain ⟨a, h1, h2⟩ := Option.bind_eq_some_iff.1 h
    exact Option.bind_eq_some_iff.2 ⟨a, hg n m a hnm h1, hf a n m b hnm h2⟩
  cases hl : lim g with
  | none =>
    have : (fun n => (g n).bind (f n)) = fun _ => none := funext fun n => by rw [lim_none hl n]; rfl
    rw [this, lim_const]; rfl
  | some a =>
    obtain ⟨n, hn⟩ := of_lim hl
    show _ = lim fun n => f n a
    cases hk : lim (fun n => f n a) with
    | none =>
      cases hx : lim (fun n => (g n).bind (f n)) with
      | none => rfl
      | some b =>
        obtain ⟨m, hb⟩ := of_lim hx
        obtain ⟨a', h1, h2⟩ := Option.bind_eq_some_iff.1 hb
        obtain rfl : a' = a := Option.some.inj ((lim_of hg h1).symm.trans hl)
        have := lim_none hk m
        rw [h2] at this; cases this
    | some b =>
      obtain ⟨m, hb⟩ := of_lim hk
      exact lim_of hm (n := max n m) (Option.bind_eq_some_iff.2 ⟨a, hg n _ a (Nat.le_max_left _ _) hn, hf a m _ b (Nat.le_max_right _ _) hb⟩)

theorem lim_bindc {α β : Type} {g : Nat → Option α} (f : α → Option β) (hg : Mono g) : lim (fun n => (g n).bind f) = (lim g).bind f := by
  rw [lim_bind (f := fun _ => f) hg (fun _ => Mono.const _)]
  congr 1; funext a; exact lim_const _

/-! ### more bound, the same answer -/
def LeC (C D : CallF) : Prop := ∀ f args H r, C f args H = some r → D f args H = some r
theorem step_le {P : Program} {C D : CallF} (h : LeC C D) {i : Ins} {e : Env} {H : Heap} {r : Value × Heap} (hr : step P C i e H = some r) : step P D i e H = some r := by
  cases i <;> try exact hr
  case call f xs => exact h _ _ _ _ hr
  case callV x xs =>
    simp only [step] at hr ⊢
    split at hr <;> try exact hr
    split at hr
    · rename_i hz; rw [if_pos hz]; exact h _ _ _ _ hr
    · cases hr
theorem stepIr_le {P : Program} {C D : CallF} (h : LeC C D) {i : Ir} {e : Env} {H : Heap} {r : Env × Heap} (hr : stepIr P C i e H = some r) : stepIr P D i e H = some r := by
  unfold stepIr at hr ⊢
  split
  · rename_i hw; rw [if_pos hw] at hr
    cases hs : step P C i.ins e H with
    | none => rw [hs] at hr; cases hr
    | some q => rw [hs] at hr; rw [step_le h hs]; exact hr
  · rename_i hw; rw [if_neg hw] at hr; exact hr
theorem runIr_le {P : Program} {C D : CallF} (h : LeC C D) : ∀ (is : List Ir) (e : Env) (H : Heap) (r : Env × Heap), runIr P C is e H = some r → runIr P D is e H = some r
  | [], e, H, r, hr => hr
  | i :: is, e, H, r, hr => by
    simp only [runIr] at hr ⊢
    cases hs : stepIr P C i e H with
    | none => rw [hs] at hr; cases hr
    | some q => rw [hs] at hr; rw [stepIr_le h hs]; exact runIr_le h is _ _ _ hr
theorem runTr_le {P : Program} {C D : CallF} (h : LeC C D) : ∀ (is : List Ir) (e : Env) (H : Heap) (r : List (Env × Heap)), runTr P C is e H = some r → runTr P D is e H = some r
  | [], e, H, r, hr => hr
  | i :: is, e, H, r, hr => by
    simp only [runTr] at hr ⊢
    cases hs : stepIr P C i e H with
    | none => rw [hs] at hr; cases hr
    | some q =>
      rw [hs] at hr; rw [stepIr_le h hs]
      simp only at hr ⊢
      cases ht : runTr P C is q.1 q.2 with
      | none => rw [ht] at hr; cases hr
      | some l => rw [ht] at hr; rw [runTr_le h is _ _ _ ht]; exact hr
theorem runD_le {P : Program} {C D : CallF} (h : LeC C D) {is : List Ir} {ch : List (Nat × Nat)} {e : Env} {H : Heap} {r : Env × Heap} (hr : runD P C is ch e H = some r) : runD P D is ch e H = some r := by
  unfold runD at hr ⊢
  cases ht : runTr P C is e H with
  | none => rw [ht] at hr; cases hr
  | some l => rw [ht] at hr; rw [runTr_le h is _ _ _ ht]; exact hr
theorem nxt_le {r r' : Option (IEx × Env × Heap)} {f f' : Env → Heap → Option (IEx × Env × Heap)} {q : IEx × Env × Heap}
    (h : ∀ q, r = some q → r' = some q) (hf : ∀ e H q, f e H = some q → f' e H = some q) (hq : nxt r f = some q) : nxt r' f' = some q := by
  cases r with
  | none => cases hq
  | some x =>
    rw [h x rfl]
    obtain ⟨x1, e, H⟩ := x
    cases x1 <;> simp only [nxt] at hq ⊢ <;> first | exact hf _ _ _ hq | exact hq
theorem iter_le {f f' : Env → Heap → Option (IEx × Env × Heap)} (hf : ∀ e H q, f e H = some q → f' e H = some q) :
    ∀ (n m : Nat) (e : Env) (H : Heap) (q : IEx × Env × Heap), n ≤ m → iter f n e H = some q → iter f' m e H = some q
  | 0, _, _, _, _, _, h => by cases h
  | n + 1, 0, _, _, _, hl, _ => by omega
  | n + 1, m + 1, e, H, q, hl, h => nxt_le (hf e H) (fun e H q hq => iter_le hf n m e H q (by omega) hq) h
theorem exec_le {P : Program} {C D : CallF} (h : LeC C D) {n m : Nat} (hnm : n ≤ m) : ∀ (c : IC) (e : Env) (H : Heap) (q : IEx × Env × Heap), exec P C n c e H = some q → exec P D m c e H = some q := by
  intro c
  induction c with
  | skip => exact fun _ _ _ hq => hq
  | exit id => exact fun _ _ _ hq => hq
  | ret => exact fun _ _ _ hq => hq
  | reg is =>
    intro e H q hq
    simp only [exec] at hq ⊢
    cases hs : runIr P C is e H with
    | none => rw [hs] at hq; cases hq
    | some r => rw [hs] at hq; rw [runIr_le h is _ _ _ hs]; exact hq
  | regd is ch =>
    intro e H q hq
    simp only [exec] at hq ⊢
    cases hs : runD P C is ch e H with
    | none => rw [hs] at hq; cases hq
    | some r => rw [hs] at hq; rw [runD_le h hs]; exact hq
  | seq a b iha ihb => intro e H q hq; simp only [exec] at hq ⊢; exact nxt_le (iha e H) ihb hq
  | cond c a b iha ihb =>
    intro e H q hq
    simp only [exec] at hq ⊢
    split at hq
    · exact iha _ _ _ hq
    · exact ihb _ _ _ hq
    · cases hq
  | block id a iha =>
    intro e H q hq
    simp only [exec] at hq ⊢
    cases hs : exec P C n a e H with
    | none => rw [hs] at hq; cases hq
    | some r => rw [hs] at hq; rw [iha _ _ _ hs]; exact hq
  | loop a iha => intro e H q hq; simp only [exec] at hq ⊢; exact iter_le iha n m e H q hnm hq
theorem callN_le (K : Cfg) : ∀ (n m : Nat), n ≤ m → LeC (callN K n) (callN K m)
  | 0, _, _, _, _, _, _, h => by cases h
  | n + 1, 0, hl, _, _, _, _, _ => by omega
  | n + 1, m + 1, hl, f, args, H, r, h => by
    have hc := callN_le K n m (by omega)
    have key : ∀ (c : IC) (e : Env) (H : Heap) (q : IEx × Env × Heap), exec K.P (callN K n) n c e H = some q → exec K.P (callN K m) m c e H = some q := exec_le hc (by omega)
    simp only [callN] at h ⊢
    split at h
    · exact h
    · split at h
      · cases h
      · rename_i F _
        split at h
        · rename_i hlen
          rw [if_pos hlen]
          split at h
          · rename_i hp
            rw [if_pos hp]
            cases hs : exec K.P (callN K n) n F.code (env0 args) H.roAll with
            | none => rw [hs] at h; cases h
            | some q => rw [hs] at h; rw [key _ _ _ _ hs]; exact h
          · rename_i hp
            rw [if_neg hp]
            cases hs : exec K.P (callN K n) n F.code (env0 args) H with
            | none => rw [hs] at h; cases h
            | some q => rw [hs] at h; rw [key _ _ _ _ hs]; exact h
        · cases h

/-! ### the limit -/
noncomputable def call (K : Cfg) : CallF := fun f args H => lim fun n => callN K n f args H
noncomputable def run (K : Cfg) (c : IC) (e : Env) (H : Heap) : Option (IEx × Env × Heap) := lim fun n => exec K.P (callN K n) n c e H
theorem mono_call (K : Cfg) (f : FuncId) (args : List Value) (H : Heap) : Mono fun n => callN K n f args H := fun n m _ hl h => callN_le K n m hl _ _ _ _ h
theorem mono_exec (K : Cfg) (c : IC) (e : Env) (H : Heap) : Mono fun n => exec K.P (callN K n) n c e H := fun n m _ hl h => exec_le (callN_le K n m hl) hl _ _ _ _ h
theorem mono_step (K : Cfg) (i : Ins) (e : Env) (H : Heap) : Mono fun n => step K.P (callN K n) i e H := fun n m _ hl h => step_le (callN_le K n m hl) h
theorem mono_stepIr (K : Cfg) (i : Ir) (e : Env) (H : Heap) : Mono fun n => stepIr K.P (callN K n) i e H := fun n m _ hl h => stepIr_le (callN_le K n m hl) h
theorem mono_runIr (K : Cfg) (is : List Ir) (e : Env) (H : Heap) : Mono fun n => runIr K.P (callN K n) is e H := fun n m _ hl h => runIr_le (callN_le K n m hl) _ _ _ _ h
theorem mono_runTr (K : Cfg) (is : List Ir) (e : Env) (H : Heap) : Mono fun n => runTr K.P (callN K n) is e H := fun n m _ hl h => runTr_le (callN_le K n m hl) _ _ _ _ h
theorem lim_step (K : Cfg) (i : Ins) (e : Env) (H : Heap) : lim (fun n => step K.P (callN K n) i e H) = step K.P (call K) i e H := by
  cases i
  case call f xs => rfl
  case callV x xs =>
    simp only [step]
    generalize ev e x = v
    cases v
    case func fn first cap =>
      cases fn
      case func f =>
        by_cases hz : first.size = 0
        · simp only [if_pos hz]; rfl
        · simp only [if_neg hz]; exact lim_const _
      all_goals exact lim_const _
    all_goals exact lim_const _
  all_goals exact lim_const _
theorem lim_stepIr (K : Cfg) (i : Ir) (e : Env) (H : Heap) : lim (fun n => stepIr K.P (callN K n) i e H) = stepIr K.P (call K) i e H := by
  unfold stepIr
  by_cases hw : wanted i e = true
  · simp only [if_pos hw]
    have h1 : ∀ n, (match step K.P (callN K n) i.ins e H with | some (v, H') => some (put i.dst v e, H') | none => none) = (step K.P (callN K n) i.ins e H).bind fun q => some (put i.dst q.1 e, q.2) := fun n => by
      cases step K.P (callN K n) i.ins e H <;> rfl
    refine (lim_ext h1).trans ?_
    rw [lim_bindc _ (mono_step K _ _ _), lim_step]
    cases step K.P (call K) i.ins e H <;> rfl
  · simp only [if_neg hw]; exact lim_const _
theorem lim_runIr (K : Cfg) : ∀ (is : List Ir) (e : Env) (H : Heap), lim (fun n => runIr K.P (callN K n) is e H) = runIr K.P (call K) is e H
  | [], e, H => lim_const _
  | i :: is, e, H => by
    have h1 : ∀ n, runIr K.P (callN K n) (i :: is) e H = (stepIr K.P (callN K n) i e H).bind fun q => runIr K.P (callN K n) is q.1 q.2 := fun n => by
      simp only [runIr]; cases stepIr K.P (callN K n) i e H <;> rfl
    rw [lim_ext h1, lim_bind (mono_stepIr K _ _ _) (fun _ => mono_runIr K _ _ _), lim_stepIr]
    simp only [runIr]
    cases stepIr K.P (call K) i e H <;> first | rfl | exact lim_runIr K is _ _
theorem lim_runTr (K : Cfg) : ∀ (is : List Ir) (e : Env) (H : Heap), lim (fun n => runTr K.P (callN K n) is e H) = runTr K.P (call K) is e H
  | [], e, H => lim_const _
  | i :: is, e, H => by
    have h1 : ∀ n, runTr K.P (callN K n) (i :: is) e H = (stepIr K.P (callN K n) i e H).bind fun q => (runTr K.P (callN K n) is q.1 q.2).bind fun l => some ((e, H) :: l) := fun n => by
      simp only [runTr]; cases stepIr K.P (callN K n) i e H with
      | none => rfl
      | some q => simp only [Option.bind_some]; cases runTr K.P (callN K n) is q.1 q.2 <;> rfl
    rw [lim_ext h1, lim_bind (mono_stepIr K _ _ _) (fun q => fun n m a hl h => by
      obtain ⟨l, h1, h2⟩ := Option.bind_eq_some_iff.1 h
      exact Option.bind_eq_some_iff.2 ⟨l, mono_runTr K _ _ _ n m l hl h1, h2⟩), lim_stepIr]
    simp only [runTr]
    cases stepIr K.P (call K) i e H with
    | none => rfl
    | some q =>
      simp only [Option.bind_some]
      rw [lim_bindc _ (mono_runTr K _ _ _), lim_runTr K is]
      cases runTr K.P (call K) is q.1 q.2 <;> rfl

theorem run_skip (K : Cfg) (e : Env) (H : Heap) : run K .skip e H = some (.norm, e, H) := lim_const _
theorem run_exit (K : Cfg) (id : Nat) (e : Env) (H : Heap) : run K (.exit id) e H = some (.exit id, e, H) := lim_const _
theorem run_ret (K : Cfg) (e : Env) (H : Heap) : run K .ret e H = some (.ret, e, H) := lim_const _
theorem run_reg (K : Cfg) (is : List Ir) (e : Env) (H : Heap) : run K (.reg is) e H = ok2 (runIr K.P (call K) is e H) := by
  unfold run
  have h1 : ∀ n, exec K.P (callN K n) n (.reg is) e H = (runIr K.P (callN K n) is e H).bind fun q => some (.norm, q.1, q.2) := fun n => by
    simp only [exec]; cases runIr K.P (callN K n) is e H <;> rfl
  rw [lim_ext h1, lim_bindc _ (mono_runIr K _ _ _), lim_runIr]
  cases runIr K.P (call K) is e H <;> rfl
theorem run_regd (K : Cfg) (is : List Ir) (ch : List (Nat × Nat)) (e : Env) (H : Heap) : run K (.regd is ch) e H = ok2 (runD K.P (call K) is ch e H) := by
  unfold run
  have h1 : ∀ n, exec K.P (callN K n) n (.regd is ch) e H = (runTr K.P (callN K n) is e H).bind fun tr => ok2 (if ∀ p ∈ ch, Chk K.P is tr p then tr.getLast? else none) := fun n => by
    simp only [exec, runD]; cases runTr K.P (callN K n) is e H <;> rfl
  rw [lim_ext h1, lim_bindc _ (mono_runTr K _ _ _), lim_runTr]
  unfold runD
  cases runTr K.P (call K) is e H <;> rfl
theorem nxt_bind (r : Option (IEx × Env × Heap)) (f : Env → Heap → Option (IEx × Env × Heap)) :
    nxt r f = r.bind fun q => match q with | (.norm, e, H) => f e H | q => some q := by
  cases r with
  | none => rfl
  | some q => obtain ⟨x, e, H⟩ := q; cases x <;> rfl
theorem run_seq (K : Cfg) (a b : IC) (e : Env) (H : Heap) : run K (.seq a b) e H = nxt (run K a e H) (run K b) := by
  unfold run
  have h1 : ∀ n, exec K.P (callN K n) n (.seq a b) e H = (exec K.P (callN K n) n a e H).bind fun q => match q with | (.norm, e, H) => exec K.P (callN K n) n b e H | q => some q := fun n => by
    simp only [exec]; exact nxt_bind _ _
  rw [lim_ext h1, lim_bind (mono_exec K _ _ _) (fun q => by obtain ⟨x, e, H⟩ := q; cases x <;> first | exact mono_exec K _ _ _ | exact Mono.const _), nxt_bind]
  congr 1
  funext q
  obtain ⟨x, e, H⟩ := q
  cases x <;> first | rfl | exact lim_const _
theorem run_cond (K : Cfg) (c : Arg) (a b : IC) (e : Env) (H : Heap) : run K (.cond c a b) e H = match ev e c with | .bool true => run K a e H | .bool false => run K b e H | _ => none := by
  unfold run
  simp only [exec]
  generalize ev e c = v
  cases v
  case bool b => cases b <;> rfl
  all_goals exact lim_const _
theorem run_block (K : Cfg) (id : Nat) (a : IC) (e : Env) (H : Heap) : run K (.block id a) e H = unblock id (run K a e H) := by
  unfold run
  have h0 : ∀ r, unblock id r = r.bind fun q => unblock id (some q) := fun r => by cases r <;> rfl
  have h1 : ∀ n, exec K.P (callN K n) n (.block id a) e H = (exec K.P (callN K n) n a e H).bind fun q => unblock id (some q) := fun n => by
    simp only [exec]; exact h0 _
  rw [lim_ext h1, lim_bindc _ (mono_exec K _ _ _), h0]
theorem run_loop (K : Cfg) (a : IC) (e : Env) (H : Heap) : run K (.loop a) e H = nxt (run K a e H) (run K (.loop a)) := by
  cases hl : run K (.loop a) e H with
  | some q =>
    obtain ⟨n, hn⟩ := of_lim hl
    cases n with
    | zero => cases hn
    | succ n =>
      have hn' : nxt (exec K.P (callN K (n + 1)) (n + 1) a e H) (iter (exec K.P (callN K (n + 1)) (n + 1) a) n) = some q := hn
      refine (nxt_le (r' := run K a e H) (f' := run K (.loop a)) (fun q hq => lim_of (mono_exec K _ _ _) hq) (fun e H q hq => ?_) hn').symm
      refine lim_of (mono_exec K _ _ _) (n := n + 1) ?_
      exact iter_le (fun _ _ _ h => h) n (n + 1) e H q (by omega) hq
  | none =>
    cases hr : nxt (run K a e H) (run K (.loop a)) with
    | none => rfl
    | some q =>
      exfalso
      rw [nxt_bind] at hr
      obtain ⟨p, h1, h2⟩ := Option.bind_eq_some_iff.1 hr
      obtain ⟨n, hn⟩ := of_lim h1
      obtain ⟨x, e', H'⟩ := p
      have go : ∀ m, (nxt (some (x, e', H')) (iter (exec K.P (callN K (max n m)) (max n m) a) (max n m))) = some q → False := by
        intro m hq
        have : exec K.P (callN K (max n m + 1)) (max n m + 1) (.loop a) e H = some q := by
          simp only [exec, iter]
          have ha : exec K.P (callN K (max n m + 1)) (max n m + 1) a e H = some (x, e', H') := mono_exec K a e H n _ _ (by omega) hn
          rw [ha]
          refine nxt_le (fun _ h => h) (fun e H q hq => ?_) hq
          exact iter_le (fun e H q hq => exec_le (callN_le K _ _ (by omega)) (by omega) _ _ _ _ hq) _ _ e H q (Nat.le_refl _) hq
        have h3 := lim_none hl (max n m + 1)
        rw [this] at h3; cases h3
      cases x with
      | norm =>
        have h2' : run K (.loop a) e' H' = some q := h2
        obtain ⟨m, hm⟩ := of_lim h2'
        refine go m ?_
        show iter _ _ e' H' = some q
        have hm' : exec K.P (callN K m) m (.loop a) e' H' = some q := hm
        simp only [exec] at hm'
        exact iter_le (fun e H q hq => exec_le (callN_le K m _ (by omega)) (by omega) _ _ _ _ hq) m _ e' H' q (by omega) hm'
      | exit id => exact go 0 h2
      | ret => exact go 0 h2
theorem call_eq (K : Cfg) (f : FuncId) (args : List Value) (H : Heap) : call K f args H =
    match K.X f with
    | some g => g args H
    | none => match K.F f with
      | none => none
      | some F =>
        if args.length ≤ F.ntmps then
          (if K.pur f then quiet H (finish F (run K F.code (env0 args) H.roAll)) else finish F (run K F.code (env0 args) H))
        else none := by
  have hs : call K f args H = lim fun n => callN K (n + 1) f args H := by
    cases hl : call K f args H with
    | some q =>
      obtain ⟨n, hn⟩ := of_lim hl
      exact (lim_of (g := fun n => callN K (n + 1) f args H) (fun n m a hl h => callN_le K _ _ (by omega) _ _ _ _ h) (n := n) (callN_le K n (n + 1) (by omega) _ _ _ _ hn)).symm
    | none =>
      have : (fun n => callN K (n + 1) f args H) = fun _ => none := funext fun n => lim_none hl (n + 1)
      rw [this, lim_const]
  rw [hs]
  simp only [callN]
  cases hX : K.X f with
  | some g => exact lim_const _
  | none =>
    cases hF : K.F f with
    | none => exact lim_const _
    | some F =>
      by_cases hl : args.length ≤ F.ntmps
      · by_cases hp : K.pur f = true
        · simp only [if_pos hl, if_pos hp]
          have h0 : ∀ r, quiet H (finish F r) = r.bind fun q => quiet H (finish F (some q)) := fun r => by cases r <;> rfl
          rw [lim_ext (fun n => h0 _), lim_bindc _ (mono_exec K _ _ _), h0]; rfl
        · simp only [if_pos hl, if_neg hp]
          have h0 : ∀ r, finish F r = r.bind fun q => finish F (some q) := fun r => by cases r <;> rfl
          rw [lim_ext (fun n => h0 _), lim_bindc _ (mono_exec K _ _ _), h0]; rfl
      · simp only [if_neg hl]; exact lim_const _
end Go.AM
