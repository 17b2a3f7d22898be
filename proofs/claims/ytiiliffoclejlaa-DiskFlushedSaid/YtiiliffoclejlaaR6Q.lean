import Derived.RangeFuncNested
import Derived.RangeFuncBox
import Derived.RangeFuncLeaves
import Derived.Shelf.Abstract
import Derived.WalkKit
import Derived.OwnWalkIn
import Derived.TacticsInMore
import Derived.LoopNIn
import Derived.LoopIn
import Derived.Test.YtiiliffoclejlaaR6J1
/- disk.Read of the given program: the walk over its loop backward. -/
namespace Go.Proofs
open Go.RowKit Go.Shelf

attribute [local go_sem] Oper.semAt_some
namespace RdW

def upto {α : Type} (f : Nat → α) (k : Nat) : List α := (List.range k).map f
theorem upto_succ {α : Type} (f : Nat → α) (k : Nat) : upto f (k + 1) = upto f k ++ [f k] := by simp [upto, List.range_succ]
theorem upto_length {α : Type} (f : Nat → α) (k : Nat) : (upto f k).length = k := by simp [upto]
/-- the k-th element from behind -/
def bk (zs : List (Int × ByteArray)) (k : Nat) : Nat × (Int × ByteArray) := (zs.length - 1 - k, (zs[zs.length - 1 - k]?.getD (0, ⟨#[]⟩)))
abbrev encE (x : Nat × (Int × ByteArray)) : Array Value := #[.int .i64 (x.1 : Int), .agg #[.int .i64 x.2.1, .string x.2.2]]

set_option maxRecDepth 100000 in
set_option maxHeartbeats 2000000 in
theorem bw1_in (F : Fence) (n : Nat) (h7 : F.fn 127) (hro : F.round = none) (hn : 1 ≤ n) (l Bs n₀ b off len cap : Nat) (zs : List (Int × ByteArray)) (hlen : len = zs.length) (hreach : len * 24 ≤ 140737488351232) (hb : 0 < len → b < n₀) (J Jx : List (Nat × (Int × ByteArray)) → World → Prop)
    (hY : ∀ pre x W, J pre W → pre.length < len → YieldAt F (n - 1) Try.prog l (encE x) W fun e W' =>
      (e = .returned (.bool true) ∧ J (pre ++ [x]) W' ∧ Below n₀ W W') ∨ (e = .returned (.bool false) ∧ Jx (pre ++ [x]) W'))
    (W : World) (hBs : W.cell? ⟨Bs, 0, none⟩ = some (.slice (some ⟨b, off, none⟩) len cap)) (hBn : Bs < n₀)
    (hc0 : ∀ j, j < len → W.cell? ⟨b, off + j * 2, none⟩ = some (.int .i64 (zs[j]?.getD (0, ⟨#[]⟩)).1)) (hc1 : ∀ j, j < len → W.cell? ⟨b, off + j * 2 + 1, none⟩ = some (.string (zs[j]?.getD (0, ⟨#[]⟩)).2)) (h0 : J [] W) :
    CallsIn F n Try.prog 127 #[.func (.yield l) #[] #[], .pointer (some ⟨Bs, 0, none⟩)] W fun e W' => (∃ v, e = .returned v) ∧
      ((∃ ys, ys = upto (bk zs) len ∧ J ys W') ∨ (∃ pre, (∃ k, k ≤ len ∧ pre = upto (bk zs) k) ∧ Jx pre W')) := by
  subst hlen
  refine callsIn_of_wp Try.func127 rfl h7 ?_ hro
  simp only [Try.ntmps127, List.size_toArray, List.length_cons, List.length_nil, Nat.reduceAdd, Nat.reduceSub, Array.replicate_succ, Array.replicate_zero, List.push_toArray, List.append_toArray, List.nil_append, List.cons_append]
  gi_wp2
  gi_loopw [3] (fun i wr => ∃ m : Nat, m ≤ zs.length ∧ i = .int .i64 ((m : Int) - 1) ∧ J (upto (bk zs) (zs.length - m)) wr ∧ Below n₀ W wr)
    (fun i _ => (intOf i + 1).toNat)
  case atStart => exact ⟨zs.length, Nat.le_refl _, rfl, by rw [Nat.sub_self]; exact h0, Below.refl _ _⟩
  case round =>
    obtain ⟨m, hm, rfl, hJs, hnx⟩ := hrel
    have hBx : wr.cell? ⟨Bs, 0, none⟩ = some (.slice (some ⟨b, off, none⟩) zs.length cap) := (hnx.cell (p := ⟨Bs, 0, none⟩) hBn).trans hBs
    rcases Nat.eq_zero_or_pos m with rfl | hpos
    · gi_wp2
      go_end0
      exact ⟨⟨_, rfl⟩, .inl ⟨_, rfl, hJs⟩⟩
    · obtain ⟨j, rfl⟩ : ∃ j, m = j + 1 := ⟨m - 1, by omega⟩
      have hj : ((j + 1 : Nat) : Int) - 1 = (j : Int) := by omega
      rw [hj]
      have hcx0 : wr.cell? ⟨b, off + j * 2, none⟩ = some (.int .i64 (zs[j]?.getD (0, ⟨#[]⟩)).1) := (hnx.cell (p := ⟨b, off + j * 2, none⟩) (hb (by omega))).trans (hc0 j hm)
      have hcx1 : wr.cell? ⟨b, off + j * 2 + 1, none⟩ = some (.string (zs[j]?.getD (0, ⟨#[]⟩)).2) := (hnx.cell (p := ⟨b, off + j * 2 + 1, none⟩) (hb (by omega))).trans (hc1 j hm)
      obtain ⟨fn, tmps, assign, body, hy, hR⟩ := hY _ (bk zs (zs.length - (j + 1))) wr hJs (by rw [upto_length]; omega)
      have e1 : zs.length - 1 - (zs.length - (j + 1)) = j := by omega
      simp only [encE, bk, e1] at hy
      have e2 : zs.length - j = zs.length - (j + 1) + 1 := by omega
      gi_wp2
      refine hR.mono ?_
      rintro e W3 (⟨rfl, hJ3, hk3⟩ | ⟨rfl, hJx3⟩)
      · gi_wp2
        go_roundw
        case rel => exact ⟨j, by omega, by simp, by rw [e2, upto_succ]; exact hJ3, hnx.trans hk3⟩
        case measure => simp [intOf]
      · gi_wp2
        refine bodyPost_ret (results_none rfl _ _ _) rfl ?_
        exact ⟨⟨_, rfl⟩, .inr ⟨_, ⟨zs.length - (j + 1) + 1, by omega, (upto_succ _ _).symm⟩, hJx3⟩⟩

set_option maxRecDepth 100000 in
set_option maxHeartbeats 1000000 in
theorem bw1_nil_in (F : Fence) (n : Nat) (h7 : F.fn 127) (hro : F.round = none) (l Bs : Nat) (J : List (Nat × (Int × ByteArray)) → World → Prop) (W : World) (hBs : W.cell? ⟨Bs, 0, none⟩ = some (.slice none 0 0)) (h0 : J [] W) :
    CallsIn F n Try.prog 127 #[.func (.yield l) #[] #[], .pointer (some ⟨Bs, 0, none⟩)] W fun e W' => (∃ v, e = .returned v) ∧ J [] W' := by
  refine callsIn_of_wp Try.func127 rfl h7 ?_ hro
  simp only [Try.ntmps127, List.size_toArray, List.length_cons, List.length_nil, Nat.reduceAdd, Nat.reduceSub, Array.replicate_succ, Array.replicate_zero, List.push_toArray, List.append_toArray, List.nil_append, List.cons_append]
  gi_wp2
  gi_loopw [3] (fun i wr => i = .int .i64 (-1) ∧ J [] wr) (fun _ _ => 0)
  case atStart => exact ⟨rfl, h0⟩
  case round =>
    obtain ⟨rfl, hJs⟩ := hrel
    gi_wp2
    go_end0
    exact ⟨⟨_, rfl⟩, hJs⟩

set_option maxRecDepth 100000 in
set_option maxHeartbeats 1000000 in
/-- slices.Backward: the slice value is boxed; the function value captures the box. -/
theorem bw_in (F : Fence) (n : Nat) (h5 : F.fn 74) (hro : F.round = none) (a : Option Addr) (len cap : Nat) (w : World) :
    CallsIn F n Try.prog 74 #[.slice a len cap] w fun e w' => e = .returned (.func (.func 127) #[] #[.pointer (some ⟨w.heap.size, 0, none⟩)]) ∧ w' = w.alloc (.cells #[.slice a len cap] 23) := by
  refine callsIn_of_wp Try.func74 rfl h5 ?_ hro
  simp only [Try.ntmps74, List.size_toArray, List.length_cons, List.length_nil, Nat.reduceAdd, Nat.reduceSub, Array.replicate_succ, Array.replicate_zero, List.push_toArray, List.append_toArray, List.nil_append, List.cons_append]
  gi_wp2
  go_ret
  exact ⟨rfl, rfl⟩

/-- The slice value sv holds writes zs, in a block below n₀; or it is nil and there are none. -/
def CW (n₀ : Nat) (W : World) (sv : Value) (zs : List (Int × ByteArray)) : Prop :=
  (sv = .slice none 0 0 ∧ zs = []) ∨ ∃ b off cap, sv = .slice (some ⟨b, off, none⟩) zs.length cap ∧ (0 < zs.length → b < n₀) ∧ (∀ j, j < zs.length → W.cell? ⟨b, off + j * 2, none⟩ = some (.int .i64 (zs[j]?.getD (0, ⟨#[]⟩)).1)) ∧ ∀ j, j < zs.length → W.cell? ⟨b, off + j * 2 + 1, none⟩ = some (.string (zs[j]?.getD (0, ⟨#[]⟩)).2)
theorem CW.below {n₀ : Nat} {A B : World} (h : Below n₀ A B) {sv : Value} {zs : List (Int × ByteArray)} : CW n₀ A sv zs → CW n₀ B sv zs
  | .inl e => .inl e
  | .inr ⟨b, off, cap, e, hb, hc, hd⟩ => .inr ⟨b, off, cap, e, hb, fun j hj => (h.cell (p := ⟨b, off + j * 2, none⟩) (hb (by omega))).trans (hc j hj), fun j hj => (h.cell (p := ⟨b, off + j * 2 + 1, none⟩) (hb (by omega))).trans (hd j hj)⟩
theorem bw_stops (F : Fence) (n : Nat) (h7 : F.fn 127) (hro : F.round = none) (hn : 1 ≤ n) (Bs n₀ : Nat) (sv : Value) (zs : List (Int × ByteArray)) (hreach : zs.length * 24 ≤ 140737488351232) (w : World) (hBs : Bs < w.heap.size) (hBn : Bs < n₀) (hn₀ : n₀ ≤ w.heap.size)
    (hc : w.cell? ⟨Bs, 0, none⟩ = some sv) (hI : CW n₀ w sv zs) :
    SeqStopsK F n Try.prog 127 #[.pointer (some ⟨Bs, 0, none⟩)] encE (Below n₀) (fun ys => ys = upto (bk zs) zs.length) (fun pre => ∃ k, k ≤ zs.length ∧ pre = upto (bk zs) k) zs.length w := fun l J Jx W hW _ _ hY h0 => by
  have hc' := (hW.cell (p := ⟨Bs, 0, none⟩) hBs).trans hc
  rcases hI.below (hW.mono hn₀) with ⟨rfl, rfl⟩ | ⟨b, off, cap, rfl, hb, hcs, hds⟩
  · exact (bw1_nil_in F n h7 hro l Bs J W hc' h0).mono fun e W' ⟨he, hj⟩ => ⟨he, .inl ⟨_, rfl, hj⟩⟩
  · exact bw1_in F n h7 hro hn l Bs n₀ b off zs.length cap zs rfl hreach hb J Jx hY W hc' hBn hcs hds h0
def CSt (n₀ : Nat) (W : World) (sv : Value) (ss : List ByteArray) : Prop :=
  (sv = .slice none 0 0 ∧ ss = []) ∨ ∃ b off cap, sv = .slice (some ⟨b, off, none⟩) ss.length cap ∧ (0 < ss.length → b < n₀) ∧ ∀ j, j < ss.length → W.cell? ⟨b, off + j, none⟩ = some (.string (ss[j]?.getD ⟨#[]⟩))
theorem CSt.below {n₀ : Nat} {A B : World} (h : Below n₀ A B) {sv : Value} {ss : List ByteArray} : CSt n₀ A sv ss → CSt n₀ B sv ss
  | .inl e => .inl e
  | .inr ⟨b, off, cap, e, hb, hc⟩ => .inr ⟨b, off, cap, e, hb, fun j hj => (h.cell (p := ⟨b, off + j, none⟩) (hb (by omega))).trans (hc j hj)⟩
/-- The frame's boxes. -/
structure Fr (w : World) (x y : Value) (at_ : Int) (r : ByteArray) (e : Int) (W : World) : Prop where
  d0 : W.cell? ⟨w.heap.size, 0, none⟩ = some x
  d1 : W.cell? ⟨w.heap.size, 1, none⟩ = some y
  a : Boxed W (w.heap.size + 1) 3 (.int .i64 at_)
  r : Boxed W (w.heap.size + 1 + 1) 9 (.string r)
  e : Boxed W (w.heap.size + 1 + 1 + 1) 31 (.int .i64 e)
  sz : w.heap.size + 1 + 1 + 1 + 1 ≤ W.heap.size
  bel : Below w.heap.size w W
theorem Boxed.bel {n : Nat} {A B : World} {k : Nat} {t : TypeId} {v : Value} (h : Boxed A k t v) (hb : Below n A B) (hk : k < n) : Boxed B k t v := (hb.block k hk).trans h
theorem Fr.below {w : World} {x y : Value} {at_ : Int} {r : ByteArray} {e : Int} {A B : World} (h : Fr w x y at_ r e A) {n : Nat} (hn : w.heap.size + 1 + 1 + 1 + 1 ≤ n) (hb : Below n A B) : Fr w x y at_ r e B :=
  ⟨(hb.cell (p := ⟨w.heap.size, 0, none⟩) (by simp only; omega)).trans h.d0, (hb.cell (p := ⟨w.heap.size, 1, none⟩) (by simp only; omega)).trans h.d1, Boxed.bel h.a hb (by omega), Boxed.bel h.r hb (by omega), Boxed.bel h.e hb (by omega), Nat.le_trans h.sz hb.size, h.bel.trans (hb.mono (by omega))⟩
theorem Fr.init (w : World) (x y : Value) (at_ : Int) : Fr w x y at_ ByteArray.empty 0 ((((w.alloc (.cells #[x, y] 25)).alloc (.cells #[.int .i64 at_] 3)).alloc (.cells #[.string ByteArray.empty] 9)).alloc (.cells #[.int .i64 0] 31)) := by
  have b1 := Boxed.new (w.alloc (.cells #[x, y] 25)) 3 (.int .i64 at_)
  have b2 := Boxed.new ((w.alloc (.cells #[x, y] 25)).alloc (.cells #[.int .i64 at_] 3)) 9 (.string ByteArray.empty)
  have b3 := Boxed.new (((w.alloc (.cells #[x, y] 25)).alloc (.cells #[.int .i64 at_] 3)).alloc (.cells #[.string ByteArray.empty] 9)) 31 (.int .i64 0)
  simp only [World.size_alloc] at b1 b2 b3
  have b0 : (w.alloc (.cells #[x, y] 25)).heap[w.heap.size]? = some (.cells #[x, y] 25 (0, 0)) := World.alloc_heap_new w _
  have h1 := Below.heap_alloc (w.alloc (.cells #[x, y] 25)) (.cells #[.int .i64 at_] 3) w.heap.size (by simp)
  have h2 := Below.heap_alloc ((w.alloc (.cells #[x, y] 25)).alloc (.cells #[.int .i64 at_] 3)) (.cells #[.string ByteArray.empty] 9) w.heap.size (by simp; omega)
  have h3 := Below.heap_alloc (((w.alloc (.cells #[x, y] 25)).alloc (.cells #[.int .i64 at_] 3)).alloc (.cells #[.string ByteArray.empty] 9)) (.cells #[.int .i64 0] 31) w.heap.size (by simp; omega)
  have hb := h3.trans (h2.trans (h1.trans b0))
  refine ⟨by simp [World.cell?, hb], by simp [World.cell?, hb], (b1.alloc _).alloc _, b2.alloc _, b3, by simp, ((((Below.refl _ w).alloc (Nat.le_refl _) _).alloc (by simp) _).alloc (by simp; omega) _).alloc (by simp; omega) _⟩
theorem Fr.own {β : Type} {w : World} {x y : Value} {at_ : Int} {r : ByteArray} {e : Int} {B : Nat} (hB : w.heap.size + 1 + 1 + 1 + 1 ≤ B) : OwnFrom B (fun (_ : β) W => Fr w x y at_ r e W) := fun s A A' row h hg hr => by
  have hk : ∀ k, k < w.heap.size + 1 + 1 + 1 + 1 → A'.heap[k]? = A.heap[k]? := fun k hk => hg.block k (by have := h.sz; omega) (fun e => by have := (hr k e.symm).1; omega)
  have hc : ∀ k o, k < w.heap.size + 1 + 1 + 1 + 1 → A'.cell? ⟨k, o, none⟩ = A.cell? ⟨k, o, none⟩ := fun k o h => World.cell?_of_block (hk k h)
  exact ⟨(hc _ _ (by omega)).trans h.d0, (hc _ _ (by omega)).trans h.d1, (hk _ (by omega)).trans h.a, (hk _ (by omega)).trans h.r, (hk _ (by omega)).trans h.e, Nat.le_trans h.sz hg.size, ownFrom_below (β := β) (B := B) (Nat.le_refl _) (by omega) s A A' row h.bel hg hr⟩
theorem Fr.setR {w : World} {x y : Value} {at_ : Int} {r : ByteArray} {e : Int} {W : World} (h : Fr w x y at_ r e W) (r' : ByteArray) : Fr w x y at_ r' e (W.setCell ⟨w.heap.size + 1 + 1, 0, none⟩ (.string r')) :=
  have hk : ∀ k, k ≠ w.heap.size + 1 + 1 → (W.setCell ⟨w.heap.size + 1 + 1, 0, none⟩ (.string r')).heap[k]? = W.heap[k]? := fun k hk => Below.heap_setCell _ _ _ k hk
  have hc : ∀ k o, k ≠ w.heap.size + 1 + 1 → (W.setCell ⟨w.heap.size + 1 + 1, 0, none⟩ (.string r')).cell? ⟨k, o, none⟩ = W.cell? ⟨k, o, none⟩ := fun k o h => World.cell?_of_block (hk k h)
  ⟨(hc _ _ (by omega)).trans h.d0, (hc _ _ (by omega)).trans h.d1, (hk _ (by omega)).trans h.a, h.r.set _, (hk _ (by omega)).trans h.e, Nat.le_trans h.sz (KeepsWalks.setCell W _ _).size, h.bel.setCell (p := ⟨w.heap.size + 1 + 1, 0, none⟩) (by simp only; omega) _⟩
theorem Fr.setE {w : World} {x y : Value} {at_ : Int} {r : ByteArray} {e : Int} {W : World} (h : Fr w x y at_ r e W) (e' : Int) : Fr w x y at_ r e' (W.setCell ⟨w.heap.size + 1 + 1 + 1, 0, none⟩ (.int .i64 e')) :=
  have hk : ∀ k, k ≠ w.heap.size + 1 + 1 + 1 → (W.setCell ⟨w.heap.size + 1 + 1 + 1, 0, none⟩ (.int .i64 e')).heap[k]? = W.heap[k]? := fun k hk => Below.heap_setCell _ _ _ k hk
  have hc : ∀ k o, k ≠ w.heap.size + 1 + 1 + 1 → (W.setCell ⟨w.heap.size + 1 + 1 + 1, 0, none⟩ (.int .i64 e')).cell? ⟨k, o, none⟩ = W.cell? ⟨k, o, none⟩ := fun k o h => World.cell?_of_block (hk k h)
  ⟨(hc _ _ (by omega)).trans h.d0, (hc _ _ (by omega)).trans h.d1, (hk _ (by omega)).trans h.a, (hk _ (by omega)).trans h.r, h.e.set _, Nat.le_trans h.sz (KeepsWalks.setCell W _ _).size, h.bel.setCell (p := ⟨w.heap.size + 1 + 1 + 1, 0, none⟩) (by simp only; omega) _⟩
open Go.AM in
theorem upto_rev (C : List (Int × ByteArray)) (k : Nat) (hk : k ≤ C.length) : (upto (bk C) k).map (·.2) = C.reverse.take k := by
  refine List.ext_getElem (by simp [upto_length, hk]) fun i h1 h2 => ?_
  have hi : i < k := by simpa [upto_length] using h1
  have hi2 : C.length - 1 - i < C.length := by omega
  simp only [upto, bk, List.map_map, List.getElem_map, List.getElem_range, Function.comp, List.getElem_take, List.getElem_reverse]
  rw [List.getElem?_eq_getElem hi2]; rfl
open Go.AM in
theorem look_none {C : List (Int × ByteArray)} {at_ : Int} (h : ∀ p ∈ upto (bk C) C.length, p.2.1 ≠ at_) : lookC C at_ = none := by
  unfold lookC
  rw [List.find?_eq_none.2 fun x hx => ?_]
  · rfl
  · have e := upto_rev C C.length (Nat.le_refl _)
    rw [List.take_of_length_le (by simp)] at e
    rw [← e] at hx
    obtain ⟨p, hp, rfl⟩ := List.mem_map.1 hx
    simpa using h p hp
open Go.AM in
theorem look_some {C : List (Int × ByteArray)} {at_ : Int} {k : Nat} (hk : k ≤ C.length) {ini : List (Nat × (Int × ByteArray))} {last : Nat × (Int × ByteArray)} (e : upto (bk C) k = ini ++ [last]) (h : ∀ p ∈ ini, p.2.1 ≠ at_) (hl : last.2.1 = at_) : lookC C at_ = some last.2.2 := by
  have e2 := upto_rev C k hk
  rw [e, List.map_append] at e2
  unfold lookC
  rw [← List.take_append_drop k C.reverse, ← e2, List.append_assoc, List.find?_append, List.find?_eq_none.2 fun x hx => ?_]
  · simp [hl]
  · obtain ⟨p, hp, rfl⟩ := List.mem_map.1 hx
    simpa using h p hp
theorem CW.mono {n m : Nat} {W : World} {sv : Value} {zs : List (Int × ByteArray)} (h : CW n W sv zs) (hm : n ≤ m) : CW m W sv zs := by
  rcases h with h | ⟨b, off, cap, e, hb, hc⟩
  · exact .inl h
  · exact .inr ⟨b, off, cap, e, fun h => by have := hb h; omega, hc⟩
open Go.AM in
set_option maxRecDepth 100000 in
set_option maxHeartbeats 4000000 in
theorem read_in (F : Fence) (n : Nat) (h23 : F.fn 23) (h31 : F.fn 31) (h73 : F.fn 73) (h74 : F.fn 74) (h127 : F.fn 127) (hro : F.round = none) (hn : 6 ≤ n) (as_ ac : Option Addr) (ls cs lc cc : Nat) (S : List ByteArray) (C : List (Int × ByteArray)) (at_ : Int) (w : World)
    (hS : CSt w.heap.size w (.slice as_ ls cs) S) (hC : CW w.heap.size w (.slice ac lc cc) C)
    (hmay : ∀ W, Below w.heap.size w W → CallsIn F (n - 1) Try.prog 31 #[.agg #[.slice as_ ls cs, .slice ac lc cc]] W fun e W' => e = .returned (.bool (dOk (S, C))) ∧ Below W.heap.size W W')
    (hhas : ∀ W, CallsIn F (n - 1) Try.prog 73 #[.int .i64 at_] W fun e W' => e = .returned (.bool (decide (0 ≤ at_ ∧ at_ < 394))) ∧ Below W.heap.size W W') :
    CallsIn F n Try.prog 23 #[.agg #[.slice as_ ls cs, .slice ac lc cc], .int .i64 at_] w fun e W' => e = .returned (.tuple #[.string (rdD (S, C) at_), .int .i64 (rdE (S, C) at_)]) ∧ Below w.heap.size w W' := by
  have h1 : 1 ≤ n := by omega
  refine callsIn_of_wp_marks Try.func23 rfl h23 ?_ hro
  simp only [Try.ntmps23, List.size_toArray, List.length_cons, List.length_nil, Nat.reduceAdd, Nat.reduceSub, Array.replicate_succ, Array.replicate_zero, List.push_toArray, List.append_toArray, List.nil_append, List.cons_append]
  by_cases hd : dOk (S, C) = true
  · rw [hd] at hmay
    by_cases ha : 0 ≤ at_ ∧ at_ < 394
    · rw [decide_eq_true ha] at hhas
      gi_wp2_with (first
        | (gi_at_call 31; refine (hmay _ (((((Below.refl _ w).alloc (Nat.le_refl _) _).alloc (by simp) _).alloc (by simp; omega) _).alloc (by simp; omega) _)).mono ?_; rintro e W1 ⟨rfl, hB1⟩; have fr1 := (Fr.init w _ _ _).below (by simp) hB1; have a1 := fr1.a.cell)
        | (gi_at_call 73; refine (hhas _).mono ?_; rintro e W2 ⟨rfl, hB2⟩; have fr2 := fr1.below fr1.sz hB2; have d20 := fr2.d0; have d21 := fr2.d1; have a2 := fr2.a.cell; have r2 := fr2.r.cell; have rf2 := fr2.r.frozen; have e2 := fr2.e.cell; have ef2 := fr2.e.frozen)
        | (gi_at_call 74; refine (bw_in F (n - 1) h74 hro _ _ _ _).mono ?_; rintro e w' ⟨rfl, rfl⟩)
        | gi_in)
      have hcl : C.length ≤ 512 := by
        have := hd; simp only [dOk, Bool.and_eq_true, decide_eq_true_eq] at this; omega
      have bB := Boxed.new W2 23 (.slice ac lc cc)
      have frW := fr2.below fr2.sz ((Below.refl W2.heap.size W2).alloc (Nat.le_refl _) (.cells #[.slice ac lc cc] 23))
      have hszW : (W2.alloc (.cells #[.slice ac lc cc] 23)).heap.size = W2.heap.size + 1 := by simp
      have hs2 := fr2.sz
      obtain ⟨W0, hW0⟩ : ∃ W0, W2.alloc (.cells #[.slice ac lc cc] 23) = W0 := ⟨_, rfl⟩
      rw [hW0] at bB frW hszW ⊢
      clear hW0
      refine wpIn_rangeFunc_ownH hro h1 (gf := 127) (lb := #[.pointer (some ⟨W2.heap.size, 0, none⟩)]) rfl h127 (enters_of Try.func127 (by kernel_rfl) rfl)
        (bw_stops F (n - 1) h127 hro (by omega) W2.heap.size W0.heap.size _ C (by omega) W0 (by omega) (by omega) (Nat.le_refl _) bB.cell ((hC.below frW.bel).mono (by omega))) belowK_t (belowK_b (Nat.le_refl _)) (Below.refl _ _) (fun _ => rfl)
        (fun pre W => ((∀ p ∈ pre, p.2.1 ≠ at_) ∧ Fr w (.slice as_ ls cs) (.slice ac lc cc) at_ ByteArray.empty 0 W) ∧ Below W0.heap.size W0 W)
        (fun c pre W => c = .ret ∧ ∃ ini last, (pre = ini ++ [last] ∧ (∀ p ∈ ini, p.2.1 ≠ at_) ∧ last.2.1 = at_) ∧ Fr w (.slice as_ ls cs) (.slice ac lc cc) at_ last.2.2 0 W)
        (OwnFrom.and (OwnFrom.and (ownFrom_pure _ _) (Fr.own (by omega))) (ownFrom_below (Nat.le_refl _) (Nat.le_refl _)))
        (fun c s A B row hs hg hr => by obtain ⟨hc, ini, last, hp, hf⟩ := hs; exact ⟨hc, ini, last, hp, Fr.own (β := Unit) (by omega) () A B row hf hg hr⟩)
        ⟨⟨by simp, frW⟩, Below.refl _ _⟩
        (fun x a' W => ∃ Bx, W0.heap.size ≤ Bx ∧ W.heap[Bx]? = some (.cells #[.int .i64 x.2.1, .string x.2.2] 27 (0, 0)) ∧ a' = { tmps := #[.agg #[.slice as_ ls cs, .slice ac lc cc], .int .i64 at_, .pointer (some ⟨w.heap.size, 0, none⟩), .pointer (some ⟨w.heap.size + 1, 0, none⟩), .pointer (some ⟨w.heap.size + 1 + 1, 0, none⟩), .pointer (some ⟨w.heap.size + 1 + 1 + 1, 0, none⟩), undef, .pointer (some ⟨Bx, 0, none⟩), .agg #[.slice as_ ls cs, .slice ac lc cc], .bool true, .bool false, .bool false, .int .i64 at_, .bool true, .bool false, .bool false, .pointer (some ⟨w.heap.size, 1, none⟩), .slice ac lc cc, .func (.func 127) #[] #[.pointer (some ⟨W2.heap.size, 0, none⟩)], .int .i64 (x.1 : Int), .agg #[.int .i64 x.2.1, .string x.2.2], undef, undef, undef, undef, undef, undef, undef, undef, undef, undef, undef], defers := [] })
        (fun x a' _ X Y row hs hg hr => by
          obtain ⟨Bx, e1, e2, e3⟩ := hs
          exact ⟨Bx, e1, (hg.block Bx (Array.getElem?_eq_some_iff.1 e2).1 (fun e => by obtain ⟨_, o, ho, hc⟩ := hr Bx e.symm; rw [e2] at ho; cases ho; cases hc)).trans e2, e3⟩)
        ?assign ?body ?done ?stop
      case assign =>
        rintro l pre x W K ⟨⟨hp, hfr⟩, hbW⟩ hK
        gi_wp2
        have hba := (Below.refl W0.heap.size W).alloc hbW.size (.cells #[.int .i64 x.2.1, .string x.2.2] 27)
        exact hK _ _ ((KeepsOthers.alloc _ _).from _) hba ⟨⟨hp, hfr.below (by omega) hba⟩, hbW.trans hba⟩ ⟨W.heap.size, hbW.size, World.alloc_heap_new W _, rfl⟩
      case body =>
        rintro l pre x a' W hl ⟨r, hr⟩ ⟨⟨hp, hfr⟩, hbW⟩ ⟨Bx, hBx, bX, rfl⟩ hlt
        have cX0 : W.cell? ⟨Bx, 0, none⟩ = some (.int .i64 x.2.1) := by simp [World.cell?, bX]
        have cX1 : W.cell? ⟨Bx, 1, none⟩ = some (.string x.2.2) := by simp [World.cell?, bX]
        have fa := hfr.a.cell
        have frc := hfr.r.cell
        have frf := hfr.r.frozen
        have fec := hfr.e.cell
        have fef := hfr.e.frozen
        gi_wp2
        · rename_i hx
          have hx' : x.2.1 = at_ := by simpa using hx
          exact ⟨((KeepsOthers.setCell _ _ _).trans (KeepsOthers.setCell _ _ _)).from _, rfl, pre, x, ⟨rfl, hp, hx'⟩, (hfr.setR x.2.2).setE 0⟩
        · rename_i hx
          have hx' : x.2.1 ≠ at_ := by simpa using hx
          exact ⟨KeepsFrom.refl _ _, Below.refl _ _, ⟨fun p hp' => (List.mem_append.1 hp').elim (hp p) (fun e => by simp at e; subst e; exact hx'), hfr⟩, hbW⟩
      case done =>
        rintro D zs W hD rfl ⟨⟨hp, hfr⟩, hbW⟩ hK
        have hlk := look_none hp
        rcases hS with ⟨_, rfl⟩ | ⟨b, off, cap, e, hb, hcs⟩
        · exfalso; simp [dOk] at hd
        · obtain ⟨rfl, rfl, rfl⟩ := Value.slice.inj e
          obtain ⟨a, rfl⟩ := Int.eq_ofNat_of_zero_le ha.1
          have hSl : S.length = 394 := by
            have := hd; simp only [dOk, Bool.and_eq_true, decide_eq_true_eq] at this; omega
          have haS : a < S.length := by omega
          have hcell := (hfr.bel.cell (p := ⟨b, off + a, none⟩) (hb (by omega))).trans (hcs a haS)
          have fa := hfr.a.cell
          have frc := hfr.r.cell
          have frf := hfr.r.frozen
          have fec := hfr.e.cell
          have fef := hfr.e.frozen
          have fd0 := hfr.d0
          gi_wp2
          have hK' := ((KeepsOthers.setCell W ⟨w.heap.size + 1 + 1, 0, none⟩ (.string (S[a]?.getD ⟨#[]⟩))).trans (KeepsOthers.setCell _ ⟨w.heap.size + 1 + 1 + 1, 0, none⟩ (.int .i64 0))).same D _ hK rfl
          have hf2 := (hfr.setR (S[a]?.getD ⟨#[]⟩)).setE 0
          refine ⟨by simp, .inl ⟨_, _, rfl, run_takeDeferred hK', ?_⟩⟩
          have hc4 := cell_kept hf2.r.cell (grownBy_putObj' _ D (.deferred none)) (fun r e => by cases e; exact ⟨_, hK', rfl⟩)
          have hc5 := cell_kept hf2.e.cell (grownBy_putObj' _ D (.deferred none)) (fun r e => by cases e; exact ⟨_, hK', rfl⟩)
          refine ⟨.tuple #[.string (S[a]?.getD ⟨#[]⟩), .int .i64 0], ?_, ?_, hf2.bel.trans (belowK_b (w := w) (Nat.le_refl _) _ D _ _ (by omega) hK' rfl rfl)⟩
          · simp [results, Try.f23, go_sem, hc4, hc5]
          · have hr : rdOk (S, C) (a : Int) = true := by simp [rdOk, hd, ha]
            rw [rdD, if_pos hr, rdE, if_pos hr, lookD, hlk]; rfl
      case stop =>
        rintro D c pre W hD ⟨k, hk, rfl⟩ ⟨rfl, ini, last, ⟨e1, e2, e3⟩, hfr⟩ hK
        have hlk := look_some hk e1 e2 e3
        gi_wp2
        refine ⟨by simp, .inl ⟨_, _, rfl, run_takeDeferred hK, ?_⟩⟩
        have hc4 := cell_kept hfr.r.cell (grownBy_putObj' _ D (.deferred none)) (fun r e => by cases e; exact ⟨_, hK, rfl⟩)
        have hc5 := cell_kept hfr.e.cell (grownBy_putObj' _ D (.deferred none)) (fun r e => by cases e; exact ⟨_, hK, rfl⟩)
        refine ⟨.tuple #[.string last.2.2, .int .i64 0], ?_, ?_, hfr.bel.trans (belowK_b (w := w) (Nat.le_refl _) W D _ _ (by omega) hK rfl rfl)⟩
        · simp [results, Try.f23, go_sem, hc4, hc5]
        · have hr : rdOk (S, C) at_ = true := by simp [rdOk, hd, ha]
          rw [rdD, if_pos hr, rdE, if_pos hr, lookD, hlk]; rfl
    · rw [decide_eq_false ha] at hhas
      gi_wp2_with (first
        | (gi_at_call 31; refine (hmay _ (((((Below.refl _ w).alloc (Nat.le_refl _) _).alloc (by simp) _).alloc (by simp; omega) _).alloc (by simp; omega) _)).mono ?_; rintro e W1 ⟨rfl, hB1⟩; have fr1 := (Fr.init w _ _ _).below (by simp) hB1; have a1 := fr1.a.cell; have r1 := fr1.r.cell; have rf1 := fr1.r.frozen; have e1 := fr1.e.cell; have ef1 := fr1.e.frozen)
        | (gi_at_call 73; refine (hhas _).mono ?_; rintro e W2 ⟨rfl, hB2⟩; have fr2 := fr1.below fr1.sz hB2; have d20 := fr2.d0; have d21 := fr2.d1; have a2 := fr2.a.cell; have r2 := fr2.r.cell; have rf2 := fr2.r.frozen; have e2 := fr2.e.cell; have ef2 := fr2.e.frozen)
        | gi_in)
      have hf2 := (fr2.setR ⟨#[]⟩).setE 200
      obtain ⟨W9, hW9⟩ : ∃ W9, (W2.setCell ⟨w.heap.size + 1 + 1, 0, none⟩ (.string ⟨#[]⟩)).setCell ⟨w.heap.size + 1 + 1 + 1, 0, none⟩ (.int .i64 200) = W9 := ⟨_, rfl⟩
      rw [hW9] at hf2 ⊢
      refine ⟨.tuple #[.string ⟨#[]⟩, .int .i64 200], ?_, ?_, hf2.bel⟩
      · have hc4 := hf2.r.cell
        have hc5 := hf2.e.cell
        simp [results, Try.f23, go_sem, hc4, hc5]
      · have hr : ¬ rdOk (S, C) at_ = true := by simp [rdOk, hd]; omega
        rw [rdD, if_neg hr, rdE, if_neg hr]
  · have hd' : dOk (S, C) = false := by simpa using hd
    rw [hd'] at hmay
    gi_wp2_with (first
      | (gi_at_call 31; refine (hmay _ (((((Below.refl _ w).alloc (Nat.le_refl _) _).alloc (by simp) _).alloc (by simp; omega) _).alloc (by simp; omega) _)).mono ?_; rintro e W1 ⟨rfl, hB1⟩; have fr1 := (Fr.init w _ _ _).below (by simp) hB1; have a1 := fr1.a.cell; have r1 := fr1.r.cell; have rf1 := fr1.r.frozen; have e1 := fr1.e.cell; have ef1 := fr1.e.frozen)
      | (gi_at_call 73; refine (hhas _).mono ?_; rintro e W2 ⟨rfl, hB2⟩; have fr2 := fr1.below fr1.sz hB2; have d20 := fr2.d0; have d21 := fr2.d1; have a2 := fr2.a.cell; have r2 := fr2.r.cell; have rf2 := fr2.r.frozen; have e2 := fr2.e.cell; have ef2 := fr2.e.frozen)
      | gi_in)
    have hf2 := (fr1.setR ⟨#[]⟩).setE 200
    obtain ⟨W9, hW9⟩ : ∃ W9, (W1.setCell ⟨w.heap.size + 1 + 1, 0, none⟩ (.string ⟨#[]⟩)).setCell ⟨w.heap.size + 1 + 1 + 1, 0, none⟩ (.int .i64 200) = W9 := ⟨_, rfl⟩
    rw [hW9] at hf2 ⊢
    refine ⟨.tuple #[.string ⟨#[]⟩, .int .i64 200], ?_, ?_, hf2.bel⟩
    · have hc4 := hf2.r.cell
      have hc5 := hf2.e.cell
      simp [results, Try.f23, go_sem, hc4, hc5]
    · have hr : ¬ rdOk (S, C) at_ = true := by simp [rdOk, hd]
      rw [rdD, if_neg hr, rdE, if_neg hr]
theorem read_calls (as_ ac : Option Addr) (ls cs lc cc : Nat) (S : List ByteArray) (C : List (Int × ByteArray)) (at_ : Int) (w : World)
    (hS : CSt w.heap.size w (.slice as_ ls cs) S) (hC : CW w.heap.size w (.slice ac lc cc) C)
    (hmay : ∀ W, Below w.heap.size w W → Calls Try.prog 31 #[.agg #[.slice as_ ls cs, .slice ac lc cc]] W fun e W' => e = .returned (.bool (Go.AM.dOk (S, C))) ∧ Below W.heap.size W W')
    (hhas : ∀ W, Calls Try.prog 73 #[.int .i64 at_] W fun e W' => e = .returned (.bool (decide (0 ≤ at_ ∧ at_ < 394))) ∧ Below W.heap.size W W') :
    Calls Try.prog 23 #[.agg #[.slice as_ ls cs, .slice ac lc cc], .int .i64 at_] w fun e W' => e = .returned (.tuple #[.string (Go.AM.rdD (S, C) at_), .int .i64 (Go.AM.rdE (S, C) at_)]) ∧ Below w.heap.size w W' :=
  callsIn_wide.1 (read_in Fence.wide 6 trivial trivial trivial trivial trivial rfl (Nat.le_refl _) as_ ac ls cs lc cc S C at_ w hS hC (fun W hW => callsIn_wide.2 (hmay W hW)) (fun W => callsIn_wide.2 (hhas W)))
#print axioms read_calls
end RdW
end Go.Proofs
