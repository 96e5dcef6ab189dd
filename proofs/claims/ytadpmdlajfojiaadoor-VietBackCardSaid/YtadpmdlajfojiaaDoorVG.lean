/- Letters and marks: the plain laws, and the contracts at known answers. -/
import Derived.Test.YtadpmdlajfojiaaDoorVF
namespace Go.Proofs.YtadpmdlajfojiaaDoor
open Go.RowKit
theorem below_then {B : Nat} {w w1 w2 : World} (h : Below B w w1) (hB : B ≤ w1.heap.size) (k : Below w1.heap.size w1 w2) : Below B w w2 := h.trans (k.mono hB)
theorem below_drawn {w w1 : World} (h : ∃ n, w1 = w.drewN n) : Below w.heap.size w w1 := by
  obtain ⟨n, rfl⟩ := h
  exact below_drewN (Below.refl _ _) n
theorem find_mem {p : Int × Int × Int → Bool} {t : Int × Int × Int} (h : allT.find? p = some t) : ∃ k : Nat, allT[k]? = some t ∧ p t = true :=
  ⟨_, List.mem_iff_getElem?.1 (List.mem_of_find?_eq_some h) |>.choose_spec, List.find?_some h⟩
theorem compose_some {l m r : Int} (h : composeL l m = some r) : ∃ k : Nat, allT[k]? = some (l, m, r) := by
  unfold composeL at h
  obtain ⟨⟨a, b, c⟩, h1, h2⟩ := Option.map_eq_some_iff.1 h
  obtain ⟨k, hk, hp⟩ := find_mem h1
  simp only [decide_eq_true_eq] at hp
  obtain ⟨rfl, rfl⟩ := hp
  cases h2
  exact ⟨k, hk⟩
theorem split_some {u a b : Int} (h : splitL u = some (a, b)) : ∃ k : Nat, allT[k]? = some (a, b, u) := by
  unfold splitL at h
  obtain ⟨⟨x, y, c⟩, h1, h2⟩ := Option.map_eq_some_iff.1 h
  obtain ⟨k, hk, hp⟩ := find_mem h1
  simp only [decide_eq_true_eq] at hp
  subst hp
  cases h2
  exact ⟨k, hk⟩
theorem find_of_nodup {β : Type} [DecidableEq β] (f : Int × Int × Int → β) (hd : (allT.map f).Nodup) {k : Nat} {t : Int × Int × Int} (hk : allT[k]? = some t) : allT.find? (fun x => decide (f x = f t)) = some t := by
  refine noneTo_found (k := k) (fun j x hj hx => ?_) hk (by simp)
  refine decide_eq_false fun e => ?_
  have h1 : (allT.map f)[j]? = some (f t) := by rw [List.getElem?_map, hx, ← e]; rfl
  have h2 : (allT.map f)[k]? = some (f t) := by rw [List.getElem?_map, hk]; rfl
  have := (List.getElem?_inj (List.getElem?_eq_some_iff.1 h1).1 hd).1 (h1.trans h2.symm)
  omega
theorem compose_of {k : Nat} {l m r : Int} (h : allT[k]? = some (l, m, r)) : composeL l m = some r := by
  have := find_of_nodup (fun t => (t.1, t.2.1)) allT_pairs h
  simp only [Prod.mk.injEq] at this
  unfold composeL
  rw [this]
  rfl
theorem split_of {k : Nat} {l m r : Int} (h : allT[k]? = some (l, m, r)) : splitL r = some (l, m) := by
  have := find_of_nodup (fun t => t.2.2) allT_results h
  unfold splitL
  rw [this]
  rfl
theorem split_compose {l m r : Int} (h : composeL l m = some r) : splitL r = some (l, m) := by
  obtain ⟨k, hk⟩ := compose_some h
  exact split_of hk
theorem compose_split {u a b : Int} (h : splitL u = some (a, b)) : composeL a b = some u := by
  obtain ⟨k, hk⟩ := split_some h
  exact compose_of hk

/-- A contract of two numbers in, a number and a bool out. -/
def Comp (f : FuncId) (l m x : Int) (ok : Bool) : Prop := ∀ w, Calls Tryd.prog f #[.int .i32 l, .int .i32 m] w fun e w' => e = .returned (.tuple #[.int .i32 x, .bool ok]) ∧ Below w.heap.size w w'
def Spl (f : FuncId) (u a b : Int) (ok : Bool) : Prop := ∀ w, Calls Tryd.prog f #[.int .i32 u] w fun e w' => e = .returned (.tuple #[.int .i32 a, .int .i32 b, .bool ok]) ∧ Below w.heap.size w w'
theorem comp_any (l m : Int) : Comp 17 l m ((composeL l m).getD 0) (composeL l m).isSome := fun w => compose_calls l m w
theorem rcomp_any (l m : Int) : Comp 25 l m ((composeL l m).getD 0) (composeL l m).isSome := fun w => (rcompose_calls l m w).mono fun _ _ ⟨h1, h2⟩ => ⟨h1, below_drawn h2⟩
theorem spl_any (u : Int) : Spl 19 u (((splitL u).map (·.1)).getD 0) (((splitL u).map (·.2)).getD 0) (splitL u).isSome := fun w => split_calls u w
theorem rspl_any (u : Int) : Spl 21 u (((splitL u).map (·.1)).getD 0) (((splitL u).map (·.2)).getD 0) (splitL u).isSome := fun w => (rsplit_calls u w).mono fun _ _ ⟨h1, h2⟩ => ⟨h1, below_drawn h2⟩
end Go.Proofs.YtadpmdlajfojiaaDoor
