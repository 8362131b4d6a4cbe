/- Short forms of steps of a walk. -/
import Derived.Deep.RegionHeld
import Derived.WalkKit
namespace Go.Proofs.YtgbmenfmaphciaaGreat
/-- What brings a walk's slots in order again. -/
theorem nrZ {α : Type} : (∀ (xs : List α) (i : Nat) (h : i < xs.toArray.size), xs.toArray[i] = xs[i]'(by simpa using h)) ∧ (∀ (x : α) (xs : List α) (i : Nat) (h : i + 1 < (x :: xs).length), (x :: xs)[i + 1] = xs[i]'(by simpa using h)) ∧ (∀ (x : α) (xs : List α) (h : 0 < (x :: xs).length), (x :: xs)[0] = x) ∧ (∀ (xs : List α) (i : Nat) (x : α), xs.toArray.setIfInBounds i x = (xs.set i x).toArray) ∧ (∀ (x y : α) (xs : List α), (x :: xs).set 0 y = y :: xs) ∧ (∀ (x y : α) (xs : List α) (i : Nat), (x :: xs).set (i + 1) y = x :: xs.set i y) :=
  ⟨fun _ _ _ => by simp, fun _ _ _ _ => by simp, fun _ _ _ => by simp, fun _ _ _ => by simp, fun _ _ _ => by simp, fun _ _ _ _ => by simp⟩
section
variable {P : Program} {ops : Array Oper} {Q : Exit → Act → World → Prop} {md : Region.Mode} {S : World → Prop}
/-- Number i is taken first; what it yields is found by the simplifier. -/
theorem tkZ (i : Nat) {v : Value} {oi : Oper} {fuel : Nat} {listed : Array Bool} {a a' : Act} {w : World}
    (h : wpAnyH P md ops Q S fuel (listed.setIfInBounds i true) a' w)
    (hi : ops[i]? = some oi := by rfl) (hs : Region.noSelect ops = true := by kernel_rfl) (hf : Region.free md ops listed i = true := by kernel_rfl) (hr : (Region.ready md ops listed).contains i = true := by kernel_rfl)
    (hQ : ∀ c a w, Q (.panic c) (a.put oi.dst v) w → Q (.panic c) a w := by exact fun _ _ _ h => h) (hw : Region.wanted oi (yielded ops a.tmps) = true := by rfl)
    (hv : ∀ w, S w → (execOp a.eval oi).run P w = .ok (.value v) w := by intro w hSw; (try dsimp only at hSw); go_simp; try with_reducible rfl) (hS : S w := by first | assumption | trivial) (ha : a.put oi.dst v = a' := by first | (simp only [Act.put, nrZ]; rfl) | simp only [Act.put, nrZ] | rfl) : wpAnyH P md ops Q S (fuel + 1) listed a w :=
  wpAnyH_take hi hs hf hr hQ (.inl ⟨hw, hv⟩) hS (ha ▸ h)
/-- Number i is taken first; what it yields is named. -/
theorem tvZ (i : Nat) (v : Value) {oi : Oper} {fuel : Nat} {listed : Array Bool} {a a' : Act} {w : World}
    (hi : ops[i]? = some oi) (hv : ∀ w, S w → (execOp a.eval oi).run P w = .ok (.value v) w)
    (h : wpAnyH P md ops Q S fuel (listed.setIfInBounds i true) a' w)
    (hs : Region.noSelect ops = true := by kernel_rfl) (hf : Region.free md ops listed i = true := by kernel_rfl) (hr : (Region.ready md ops listed).contains i = true := by kernel_rfl)
    (hQ : ∀ c a w, Q (.panic c) (a.put oi.dst v) w → Q (.panic c) a w := by exact fun _ _ _ h => h) (hw : Region.wanted oi (yielded ops a.tmps) = true := by rfl)
    (hS : S w := by first | assumption | trivial) (ha : a.put oi.dst v = a' := by first | (simp only [Act.put, nrZ]; rfl) | simp only [Act.put, nrZ] | rfl) : wpAnyH P md ops Q S (fuel + 1) listed a w :=
  wpAnyH_take hi hs hf hr hQ (.inl ⟨hw, hv⟩) hS (ha ▸ h)
/-- One that is ready alone. -/
theorem rdZ (i : Nat) {o : Oper} {fuel : Nat} {listed : Array Bool} {a : Act} {w : World}
    (h : ∀ K' : Act → World → Prop, Shut (∀ a w, S w → (S w → wpAnyH P md ops Q S fuel (listed.setIfInBounds i true) a w) → K' a w) → if Region.wanted o (yielded ops a.tmps) = true then Oper.wp P o a w K' Q else K' (a.put o.dst undef) w)
    (ho : ops[i]? = some o := by rfl) (hr : Region.ready md ops listed = [i] := by kernel_rfl) : wpAnyH P md ops Q S (fuel + 1) listed a w :=
  wpAnyH_ready hr (by simp) (AllReadyH.cons ho h AllReadyH.nil)
end
section
variable {P : Program} {o : Oper} {a a' : Act} {w w' : World} {t : TypeId} {p q : Operand} {X Y v : Value}
/-- A load, by what it reads. -/
theorem ldX (hrun : (Instr.loadAt t X).run P w = .ok v w') (ho : o.op = .load t p := by rfl) (hp : a.eval p = X := by rfl) : (execOp a.eval o).run P w = .ok (.value v) w' := by
  simp [execOp, ho, hp, hrun]
theorem stX (hrun : (Instr.storeAt t X Y).run P w = .ok () w') (ho : o.op = .store t p q := by rfl) (hp : a.eval p = X := by rfl) (hq : a.eval q = Y := by rfl) : (execOp a.eval o).run P w = .ok .skip w' := by
  simp [execOp, ho, hp, hq, hrun]
variable {K : Act → World → Prop} {Q : Exit → Act → World → Prop} {ops : Array Oper} {rest : List Oper}
theorem ldY (hrun : (Instr.loadAt t X).run P w = .ok v w') (hK : K (a.put o.dst v) w') (ho : o.op = .load t p := by rfl) (hp : a.eval p = X := by rfl) : o.wp P a w K Q := by
  unfold Oper.wp
  rw [ldX hrun ho hp]
  exact hK
theorem stY (hrun : (Instr.storeAt t X Y).run P w = .ok () w') (hK : K (a.put o.dst undef) w') (ho : o.op = .store t p q := by rfl) (hp : a.eval p = X := by rfl) (hq : a.eval q = Y := by rfl) : o.wp P a w K Q := by
  unfold Oper.wp
  rw [stX hrun ho hp hq]
  exact hK
theorem ldZ (hrun : (Instr.loadAt t X).run P w = .ok v w') (hK : wpList P ops Q rest a' w') (hg : o.guard = none := by rfl) (ho : o.op = .load t p := by rfl) (hp : a.eval p = X := by rfl) (ha : a.put o.dst v = a' := by first | (simp only [Act.put, nrZ]; rfl) | simp only [Act.put, nrZ] | rfl) : wpList P ops Q (o :: rest) a w :=
  wpList_plain hg fun _ hK' => ldY hrun (hK' _ _ (ha ▸ hK)) ho hp
theorem stZ (hrun : (Instr.storeAt t X Y).run P w = .ok () w') (hK : wpList P ops Q rest a' w') (hg : o.guard = none := by rfl) (ho : o.op = .store t p q := by rfl) (hp : a.eval p = X := by rfl) (hq : a.eval q = Y := by rfl) (ha : a.put o.dst undef = a' := by first | (simp only [Act.put, nrZ]; rfl) | simp only [Act.put, nrZ] | rfl) : wpList P ops Q (o :: rest) a w :=
  wpList_plain hg fun _ hK' => stY hrun (hK' _ _ (ha ▸ hK)) ho hp hq
end
end Go.Proofs.YtgbmenfmaphciaaGreat
