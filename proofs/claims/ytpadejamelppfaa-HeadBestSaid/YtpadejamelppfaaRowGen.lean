import Derived.Carry
import Derived.ChangeOld
import Derived.SizedLaws
import Derived.Lib.SmallJoins
import Derived.WalkKit
import Derived.OpenShut
import Derived.ShutString
import Derived.Test.YtpadejamelppfaaWWords
/- Arguments of a row behind the call: they read as they did, whatever their types, where below the heap's old size nothing has turned. A field of a struct argument is opened by its type; its size is bound as the argument's is. -/
namespace Go.Proofs.RowGen
open Go.RowKit Go.WideElems Go.ChangeShapes Go.WideShapes

def rowed (P : Program) (ts : List TypeId) : Bool := ts.all fun t => P.readableRec t && decide (t < P.types.size)

section
variable {H : Type} {enc : TypeId × Value → H} {P : Program}

theorem args_stay (hl : laidOutB P = true) {W W' : World} (hb : Below W.heap.size W W') : ∀ {ts : List TypeId} {vs : List Value} {ds : List (DataW H)} {ps : List MemPlace}, rowed P ts = true →
    DataW.TrodAll enc P W 0 (fun _ => true) true ts vs ds ps → DataW.TrodAll enc P W' 0 (fun b => decide (b < W.heap.size)) true ts vs ds ps
  | [], [], [], _, _, h => h
  | [], [], _ :: _, _, _, h => h.elim
  | [], _ :: _, [], _, _, h => h.elim
  | [], _ :: _, _ :: _, _, _, h => h.elim
  | _ :: _, [], [], _, _, h => h.elim
  | _ :: _, [], _ :: _, _, _, h => h.elim
  | t :: ts, v :: vs, [], _, _, h => h.elim
  | t :: ts, v :: vs, d :: ds, ps, hr, h => by
    have hlt := h.lt
    obtain ⟨p, q, h1, h2, e⟩ := h
    simp only [rowed, List.all_cons, Bool.and_eq_true, decide_eq_true_eq] at hr
    have hp : ∀ x ∈ p, x.block < W.heap.size := fun x hx => hlt x (by rw [e]; simp [hx])
    exact ⟨p, q, Trod_stays hl hr.1.1 hr.1.2 h1 (fun x hx => hb.same (hp x hx)) (fun x hx => by simpa using hp x hx), args_stay hl hb hr.2 h2, e⟩

end

open Go.Proofs.YtpadejamelppfaaW.PrintWords

/-- What is read at type t is of kind d, and Ok. -/
structure Opn (P : Program) (t : TypeId) {α : Type} (d : Kd α) (Ok : α → Prop) : Prop where
  cells : P.cellsOf t = d.sz
  opn : ∀ {H : Type} {enc : TypeId × Value → H} {w : World} {base : Nat} {sp : Nat → Bool} {held : Bool} {fuel : Nat} {cs : List Value} {x : DataW H × List MemPlace},
    DataW.trod enc P w base sp held fuel t cs = some x → (x.1.weights P t).all (· ≤ reachBytes) = true → ∃ a, d.K w a cs ∧ Ok a

theorem Opn.int {P : Program} {t : TypeId} {k : IntKind} (ht : P.underlying t = some (.int k)) (hc : P.cellsOf t = 1) : Opn P t (Kd.int k) (fun n => (Lit.int k n).wf = true) :=
  ⟨hc, fun h _ => by obtain ⟨n, rfl, _, hw⟩ := DataW.trod_int ht h; exact ⟨n, rfl, hw⟩⟩
theorem Opn.bool {P : Program} {t : TypeId} (ht : P.underlying t = some .bool) (hc : P.cellsOf t = 1) : Opn P t Kd.bool (fun _ => True) :=
  ⟨hc, fun h _ => by obtain ⟨n, rfl, _⟩ := DataW.trod_bool ht h; exact ⟨n, rfl, trivial⟩⟩
theorem Opn.string {P : Program} {t : TypeId} (ht : P.underlying t = some .string) (hc : P.cellsOf t = 1) : Opn P t Kd.string (fun s => s.size ≤ 140737488351232) :=
  ⟨hc, fun h hz => by
    obtain ⟨s, rfl, rfl, _⟩ := DataW.trod_string ht h
    refine ⟨s, rfl, ?_⟩
    have : s.data.toList.length ≤ reachBytes := by simpa [DataW.weights] using hz
    have e : reachBytes = 140737488351232 := by decide
    rw [Array.length_toList] at this
    rw [e] at this
    exact this⟩

/-- The fields of a struct from a cell on. -/
structure OpnFs (P : Program) (fs : List Field) (off : Nat) {α : Type} (d : Kd α) (Ok : α → Prop) : Prop where
  opn : ∀ {H : Type} {enc : TypeId × Value → H} {w : World} {base : Nat} {sp : Nat → Bool} {held : Bool} {n : Nat} {cs : List Value} {xs : List (DataW H × List MemPlace)},
    xs.length = fs.length → cs.length = off + d.sz → (∀ (i : Nat) (f : Field), fs[i]? = some f → DataW.trod enc P w base sp held n f.type ((cs.drop f.offset).take (P.cellsOf f.type)) = xs[i]?) →
    (DataW.weightsEach P (fs.map (·.type)) (xs.map (·.1))).all (· ≤ reachBytes) = true → ∃ a, d.K w a (cs.drop off) ∧ Ok a
theorem OpnFs.one {P : Program} {f : Field} {off : Nat} {α : Type} {d : Kd α} {Ok : α → Prop} (ho : f.offset = off) (h : Opn P f.type d Ok) : OpnFs P [f] off d Ok :=
  ⟨fun {_ _ _ _ _ _ _ cs xs} hl hc hx hz => by
    match xs, hl with
    | [x], _ =>
      have h0 := hx 0 f rfl
      rw [ho, h.cells, List.take_of_length_le (by rw [List.length_drop]; omega)] at h0
      exact h.opn h0 (by simpa [DataW.weightsEach] using hz)⟩
theorem OpnFs.cons {P : Program} {f : Field} {fs : List Field} {off : Nat} {α β : Type} {d : Kd α} {d' : Kd β} {Ok : α → Prop} {Ok' : β → Prop} (ho : f.offset = off) (h : Opn P f.type d Ok)
    (h' : OpnFs P fs (off + d.sz) d' Ok') : OpnFs P (f :: fs) off (Kd.pair d d') (fun x => Ok x.1 ∧ Ok' x.2) :=
  ⟨fun {_ _ _ _ _ _ _ cs xs} hl hc hx hz => by
    match xs, hl with
    | x :: xs, hl =>
      have h0 := hx 0 f rfl
      rw [ho, h.cells] at h0
      simp only [List.map_cons, DataW.weightsEach, List.all_append, Bool.and_eq_true] at hz
      have hc' : cs.length = off + d.sz + d'.sz := by rw [hc]; show off + (d.sz + d'.sz) = _; omega
      obtain ⟨a, ka, oa⟩ := h.opn h0 hz.1
      obtain ⟨b, kb, ob⟩ := h'.opn (xs := xs) (by simpa using hl) hc' (fun i g hg => hx (i + 1) g hg) hz.2
      refine ⟨(a, b), ⟨(cs.drop off).take d.sz, cs.drop (off + d.sz), ?_, ka, kb⟩, oa, ob⟩
      rw [← List.drop_drop, List.take_append_drop]⟩
theorem Opn.struct {P : Program} {t : TypeId} {fs : Array Field} {α β : Type} {d : Kd α} {Ok : α → Prop} (ht : P.underlying t = some (.struct fs)) (hc : P.cellsOf t = d.sz) (h : OpnFs P fs.toList 0 d Ok)
    (f : β → α) (g : α → β) (hfg : ∀ a, f (g a) = a) : Opn P t (Kd.iso d f) (fun x => Ok (f x)) :=
  ⟨hc, fun hx hz => by
    obtain ⟨xs, n, _, rfl, hl, hlen, hf⟩ := DataW.trod_struct ht hx
    obtain ⟨a, ka, oa⟩ := h.opn (xs := xs) (by simpa using hlen) (by rw [hl, hc]; omega) (fun i f hi => hf i f (by simpa using hi)) (by simpa [DataW.weights, ht] using hz)
    refine ⟨g a, ?_, by show Ok (f (g a)); rw [hfg]; exact oa⟩
    show d.K _ (f (g a)) _
    rw [hfg]; simpa using ka⟩

/-- An argument that is no struct. -/
theorem arg_one {P : Program} {t : TypeId} {α : Type} {d : Kd α} {Ok : α → Prop} (O : Opn P t d Ok) {H : Type} {enc : TypeId × Value → H} {w : World} {base : Nat} {sp : Nat → Bool} {held : Bool} {v : Value} {y : DataW H} {ps : List MemPlace}
    {ts : List TypeId} {ds : List (DataW H)} (hsz : (DataW.weightsEach P ts ds).all (· ≤ reachBytes) = true) {j : Nat} (hj : ts[j]? = some t) (hd : ds[j]? = some y) (h : DataW.Trod enc P w base sp held t v y ps) :
    ∃ a, d.K w a v.cells.toList ∧ Ok a := by
  obtain ⟨fuel, hf⟩ := h
  refine O.opn hf ?_
  rw [List.all_eq_true] at hsz ⊢
  exact fun n hn => hsz n (DataW.weights_mem_each hj hd n hn)
end Go.Proofs.RowGen
