/- Report: ReadCodes, ReadBlocked; ReadTasks behind taskRead's contract. -/
import Derived.Test.YtllmejkcohfbiaaGreatDoorR19Cd
import Derived.Test.YtllmejkcohfbiaaGreatDoorR19Bk
namespace Go.Proofs.YtllmejkcohfbiaaGreatDoor
open Go.RowKit Go.Shelf Go.Sort Go.Lib
set_option linter.unusedVariables false
set_option linter.unusedSimpArgs false
set_option maxRecDepth 100000
set_option maxHeartbeats 4000000

theorem valB_i64 (x : List UInt8) : I64 (valB x) := by
  unfold valB
  split
  · rename_i v h
    exact Lib.atoiAll_bounds h
  · exact ⟨by decide, by decide⟩
theorem idxFrom_rng : ∀ (zs : List ByteArray) (x : ByteArray) (k : Nat), Lib.idxFromS zs x k = -1 ∨ ((k : Int) ≤ Lib.idxFromS zs x k ∧ Lib.idxFromS zs x k < (k : Int) + zs.length)
  | [], x, k => .inl rfl
  | z :: zs, x, k => by
    unfold Lib.idxFromS
    split
    · right
      simp only [List.length_cons]
      omega
    · rcases idxFrom_rng zs x (k + 1) with h | ⟨h1, h2⟩
      · exact .inl h
      · right
        simp only [List.length_cons]
        omega
theorem idxB_rng (ws : List (List UInt8)) (x : List UInt8) : -1 ≤ idxB ws x ∧ idxB ws x < ws.length + 1 := by
  unfold idxB Lib.idxOfS
  rcases idxFrom_rng (ws.map bs) (bs x) 0 with h | ⟨h1, h2⟩
  · omega
  · rw [List.length_map] at h2
    omega
theorem cdRead_wf (ws : List (List UInt8)) : (cdRead ws).wf := by
  have h1 := idxB_rng callWs (ws.getD 0 [])
  have h2 := idxB_rng codeWs (ws.getD 1 [])
  have h3 := valB_i64 (ws.getD 1 [])
  have h4 := valB_i64 (ws.getD 2 [])
  have l1 : callWs.length = 13 := rfl
  have l2 : codeWs.length = 17 := rfl
  unfold I64 at h3 h4
  refine ⟨⟨?_, ?_⟩, ?_, h4⟩
  · show _ ≤ idxB callWs (ws.getD 0 [])
    omega
  · show idxB callWs (ws.getD 0 []) ≤ _
    omega
  · unfold cdRead I64
    simp only
    split
    · exact h3
    · omega
theorem bkRead_wf (ws : List (List UInt8)) : (bkRead ws).wf := by
  have h2 := idxB_rng whyWs (ws.getD 1 [])
  have l2 : whyWs.length = 7 := rfl
  refine ⟨valB_i64 _, ⟨?_, ?_⟩, (pV_rng _).1, (pV_rng _).2⟩
  · show _ ≤ idxB whyWs (ws.getD 1 [])
    omega
  · show idxB whyWs (ws.getD 1 []) ≤ _
    omega
theorem trim_len (x : List UInt8) : (Lib.trimSuffix x [10]).length ≤ x.length := by
  unfold Lib.trimSuffix
  split
  · rw [List.length_take]
    omega
  · exact Nat.le_refl _
def rdCodes (s : List UInt8) : List Cd × Int × Int := parseL (rdOf (fun t => cdRead (splitS t)) Cd.ok cdB) (linesGo [] s) []
def rdBlocked (s : List UInt8) : List Bk × Int × Int := parseL (rdOf (fun t => bkRead (splitS t)) Bk.ok bkB) (linesGo [] s) []
theorem ReadCodes_any (s : List UInt8) (hs : s.length ≤ 100000) (w : World) (he : EnvR w) :
    Calls Tryz.prog 27 #[.string (bs s)] w (CdPost w (rdCodes s)) := by
  have H := Lib.hid (cdLines_any (fun t => cdRead (splitS t)) s hs w he.tab (fun x hx W hf => codeRead_any _ (by
    have h1 := trim_len x
    have h2 := lines_len s [] x hx
    simp only [List.length_nil] at h2
    omega) W (he.new hf)) (fun x hx => cdRead_wf _))
  have HQ := Lib.hid (show ∀ e w', CdPost w (rdCodes s) e w' → CdPost w (rdCodes s) e w' from fun _ _ h => h)
  unfold rdCodes
  generalize parseL (rdOf (fun t => cdRead (splitS t)) Cd.ok cdB) (linesGo [] s) [] = y at H ⊢
  obtain ⟨y1, y2, y3⟩ := y
  clear he HQ
  go_enter Tryz.func27, Tryz.ntmps27
  go_wp2_with fail
  refine H.out.mono ?_
  rintro e w1 ⟨v, rfl, hr, f1⟩
  simp only at hr
  have HR := Lib.hid hr
  clear hr
  go_wp2
  go_ret3
  exact ⟨v, rfl, HR.out, f1⟩
theorem ReadBlocked_any (s : List UInt8) (hs : s.length ≤ 100000) (w : World) (he : EnvR w) :
    Calls Tryz.prog 25 #[.string (bs s)] w (BkPost w (rdBlocked s)) := by
  have H := Lib.hid (bkLines_any (fun t => bkRead (splitS t)) s hs w he.tab (fun x hx W hf => blockedRead_any _ (by
    have h1 := trim_len x
    have h2 := lines_len s [] x hx
    simp only [List.length_nil] at h2
    omega) W (he.new hf)) (fun x hx => bkRead_wf _))
  unfold rdBlocked
  generalize parseL (rdOf (fun t => bkRead (splitS t)) Bk.ok bkB) (linesGo [] s) [] = y at H ⊢
  obtain ⟨y1, y2, y3⟩ := y
  clear he
  go_enter Tryz.func25, Tryz.ntmps25
  go_wp2_with fail
  refine H.out.mono ?_
  rintro e w1 ⟨v, rfl, hr, f1⟩
  simp only at hr
  have HR := Lib.hid hr
  clear hr
  go_wp2
  go_ret3
  exact ⟨v, rfl, HR.out, f1⟩
end Go.Proofs.YtllmejkcohfbiaaGreatDoor
