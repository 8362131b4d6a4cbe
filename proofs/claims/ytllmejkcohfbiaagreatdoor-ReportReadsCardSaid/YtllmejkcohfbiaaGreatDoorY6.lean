/- Plain: the law's own reading of lines, and that it reads what the program reads. -/
/- Report: the law's own parts, words, number and index, walked. -/
/- Report: the law's own words, number and index, walked. -/
/- Report: the law's own number and index, walked. -/
/- Report: the law's own readers of lines, walked. -/
/- Report: the law's own reader of tasks that wait, walked; read. -/
/- ReportReads answers true. -/
import Derived.Test.YtllmejkcohfbiaaGreatDoorV6
import Derived.Test.YtllmejkcohfbiaaGreatDoorVS
import Derived.Test.YtllmejkcohfbiaaGreatDoorR16
import Derived.Test.YtllmejkcohfbiaaGreatDoorS2
import Derived.Test.YtllmejkcohfbiaaGreatDoorS4
import Derived.Test.YtllmejkcohfbiaaGreatDoorS5
import Derived.Test.YtllmejkcohfbiaaGreatDoorR18Tk
import Derived.Test.YtllmejkcohfbiaaGreatDoorR17
import Derived.Test.YtllmejkcohfbiaaGreatDoorS7
import Derived.BigQuiet
namespace Go.Proofs.YtllmejkcohfbiaaGreatDoor
open Go.RowKit Go.Shelf Go.Sort Go.Lib
set_option linter.unusedVariables false
set_option linter.unusedSimpArgs false
set_option maxRecDepth 100000
set_option maxHeartbeats 4000000

/-- The bytes that the law's words keep. -/
def keepB (c : UInt8) : Bool := !(c == 44 || c == 58 || c == 10)
def wordsL (l : List UInt8) : List (List UInt8) := spl [] (l.filter keepB)
theorem spl_ne : ∀ (a cur : List UInt8), spl cur a ≠ []
  | [], cur => by simp [spl]
  | b :: r, cur => by
    rw [spl]
    split
    · simp
    · exact spl_ne r _
theorem spl_space : ∀ (a cur : List UInt8), spl cur (a ++ [32]) = spl cur a ++ [[]]
  | [], cur => by simp [spl]
  | b :: r, cur => by
    rw [List.cons_append, spl, spl]
    split
    · rw [spl_space r []]
      rfl
    · exact spl_space r _
/-- A byte more at the last word. -/
def lastMore (ws : List (List UInt8)) (c : UInt8) : List (List UInt8) := ws.set (ws.length - 1) (ws.getD (ws.length - 1) [] ++ [c])
theorem lastMore_cons (x : List UInt8) (ws : List (List UInt8)) (c : UInt8) (h : ws ≠ []) : lastMore (x :: ws) c = x :: lastMore ws c := by
  unfold lastMore
  have hl : 0 < ws.length := List.length_pos_iff.2 h
  obtain ⟨k, hk⟩ : ∃ k, ws.length = k + 1 := ⟨ws.length - 1, by omega⟩
  have e1 : (x :: ws).length - 1 = k + 1 := by simp [hk]
  have e2 : ws.length - 1 = k := by omega
  rw [e1, e2, List.set_cons_succ]
  simp
theorem spl_more : ∀ (a cur : List UInt8) (c : UInt8), c ≠ 32 → spl cur (a ++ [c]) = lastMore (spl cur a) c
  | [], cur, c, h => by
    rw [List.nil_append]
    simp [spl, lastMore, h]
  | b :: r, cur, c, h => by
    rw [List.cons_append, spl, spl]
    split
    · rw [spl_more r [] c h, lastMore_cons _ _ _ (spl_ne r [])]
    · exact spl_more r _ c h
theorem wordsL_space (a : List UInt8) : wordsL (a ++ [32]) = wordsL a ++ [[]] := by
  unfold wordsL
  rw [List.filter_append]
  exact spl_space _ _
theorem wordsL_more (a : List UInt8) (c : UInt8) (h : c ≠ 32) (hk : keepB c = true) : wordsL (a ++ [c]) = lastMore (wordsL a) c := by
  unfold wordsL
  rw [List.filter_append]
  have : [c].filter keepB = [c] := by simp [hk]
  rw [this]
  exact spl_more _ _ c h
theorem wordsL_idle (a : List UInt8) (c : UInt8) (hk : keepB c = false) : wordsL (a ++ [c]) = wordsL a := by
  unfold wordsL
  rw [List.filter_append]
  have : [c].filter keepB = [] := by simp [hk]
  rw [this, List.append_nil]
theorem wordsL_ne (a : List UInt8) : wordsL a ≠ [] := spl_ne _ _
/-- The number of a word. -/
def numB (s : List UInt8) : Bool := s.all (fun c => decide (48 ≤ c.toNat ∧ c.toNat ≤ 57)) && decide (s.length ≤ 19)
def tailW (x : List UInt8) : List UInt8 := if x.head? = some 45 then x.drop 1 else x
def numX (x : List UInt8) : Int := if x = [] then -1 else if (tailW x = [] || numB (tailW x)) = true then (if x.head? = some 45 then IntKind.i64.wrap (IntKind.u64.wrap (-(dval (tailW x) : Int))) else IntKind.i64.wrap (dval (tailW x) : Int)) else -1
def numL (ws : List (List UInt8)) (i : Nat) : Int := match ws[i]? with | none => -1 | some x => numX x
theorem i64_wrap (x : Int) : I64 (IntKind.i64.wrap x) := by
  unfold I64
  simp [IntKind.wrap, IntKind.signed, IntKind.bits]
  omega
theorem numX_i64 (x : List UInt8) : I64 (numX x) := by
  unfold numX
  split
  · unfold I64; omega
  · split
    · split <;> exact i64_wrap _
    · unfold I64; omega
theorem numL_i64 (ws : List (List UInt8)) (i : Nat) : I64 (numL ws i) := by
  unfold numL
  split
  · unfold I64; omega
  · exact numX_i64 _
theorem dig_all (u : Nat) : (Lib.decDigits u).all (fun c => decide (48 ≤ c.toNat ∧ c.toNat ≤ 57)) = true := by
  rw [List.all_eq_true]
  intro c hc
  exact decide_eq_true (decDigits_dig u c hc)
theorem nd_pow : ∀ (k u : Nat), u < 10 ^ (k + 1) → Lib.nDigits u ≤ k + 1
  | 0, u, h => by
    rw [Lib.nDigits_small (by simpa using h)]
    exact Nat.le_refl _
  | k + 1, u, h => by
    rw [Lib.nDigits]
    split
    · omega
    · have := nd_pow k (u / 10) (by
        rw [Nat.div_lt_iff_lt_mul (by decide)]
        rw [Nat.pow_succ] at h
        exact h)
      omega
theorem digits19 (u : Nat) (h : u ≤ 9223372036854775808) : (Lib.decDigits u).length ≤ 19 := by
  rw [Lib.decDigits_length]
  exact nd_pow 18 u (by
    have : (10 : Nat) ^ (18 + 1) = 10000000000000000000 := by decide
    omega)
theorem head_dec (u : Nat) : (Lib.decDigits u).head? ≠ some 45 := by
  intro h
  have := decDigits_dig u 45 (List.mem_of_mem_head? h)
  unfold isDig at this
  simp at this
theorem numX_itoa (n : Int) (h : I64 n) : numX (Lib.itoa n) = n := by
  unfold I64 at h
  by_cases h0 : n < 0
  · obtain ⟨u, rfl⟩ : ∃ u : Nat, n = -(u : Int) := ⟨n.natAbs, by omega⟩
    rw [Lib.itoa_neg u (by omega)]
    unfold numX tailW numB
    simp only [List.head?_cons, List.drop_succ_cons, List.drop_zero, if_true]
    rw [if_neg (by simp), dig_all, decide_eq_true (digits19 u (by omega)), dval_decDigits]
    simp [IntKind.wrap, IntKind.signed, IntKind.bits]
    have hm : (-(u : Int)) % 18446744073709551616 = 18446744073709551616 - u := by omega
    rw [hm, if_pos (by omega)]
    omega
  · obtain ⟨u, rfl⟩ : ∃ u : Nat, n = u := ⟨n.toNat, by omega⟩
    rw [Lib.itoa_nonneg]
    unfold numX tailW numB
    simp only [if_neg (decDigits_nil u), if_neg (head_dec u)]
    rw [dig_all, decide_eq_true (digits19 u (by omega)), dval_decDigits]
    simp [IntKind.wrap, IntKind.signed, IntKind.bits]
    omega
/-- The place of a word. -/
def idxG (x : List UInt8) : Nat → List (List UInt8) → Int
  | _, [] => -1
  | k, y :: r => if y = x then (k : Int) else idxG x (k + 1) r
def idxL (tbl : List (List UInt8)) (ws : List (List UInt8)) (i : Nat) : Int := match ws[i]? with | none => -1 | some x => idxG x 0 tbl
theorem idxG_rng (x : List UInt8) : ∀ (tbl : List (List UInt8)) (k : Nat), idxG x k tbl = -1 ∨ ((k : Int) ≤ idxG x k tbl ∧ idxG x k tbl < (k : Int) + tbl.length)
  | [], k => .inl rfl
  | y :: r, k => by
    rw [idxG]
    split
    · refine .inr ⟨Int.le_refl _, ?_⟩
      simp only [List.length_cons]
      omega
    · rcases idxG_rng x r (k + 1) with h | h
      · exact .inl h
      · refine .inr ?_
        simp only [List.length_cons]
        omega
theorem idxL_rng (tbl ws : List (List UInt8)) (i : Nat) : -1 ≤ idxL tbl ws i ∧ idxL tbl ws i ≤ tbl.length := by
  unfold idxL
  split
  · omega
  · next x _ =>
    rcases idxG_rng x tbl 0 with h | h <;> omega
theorem idxG_none (x : List UInt8) : ∀ (tbl : List (List UInt8)) (k : Nat), x ∉ tbl → idxG x k tbl = -1
  | [], _, _ => rfl
  | y :: r, k, h => by
    rw [idxG, if_neg (fun e => h (by simp [e]))]
    exact idxG_none x r (k + 1) (fun hm => h (List.mem_cons_of_mem _ hm))
/-- What the law reads in a line. -/
def tkL (s : List UInt8) : Tk := ⟨numL (wordsL s) 1, numL (wordsL s) 3, numL (wordsL s) 5, numL (wordsL s) 7, numL (wordsL s) 9, numL (wordsL s) 11, numL (wordsL s) 13, numL (wordsL s) 15⟩
def cdL (s : List UInt8) : Cd := ⟨idxL (callWs.drop 1) (wordsL s) 0 + 1, if idxL codeWs (wordsL s) 1 < 0 then numL (wordsL s) 1 else idxL codeWs (wordsL s) 1, numL (wordsL s) 2⟩
/-- The bytes of a time, as the law reckons: the first 21 alone. -/
def tstep (z : Int) (c : UInt8) : Int := IntKind.u64.wrap (IntKind.u64.wrap (10 * z) + IntKind.u8.wrap ((c.toNat : Int) - 48))
def timeX (x : List UInt8) : Int := (x.take 21).foldl tstep 0
def timeL (ws : List (List UInt8)) : Int := match ws[3]? with | none => 18446744073709551615 | some x => if x = [110, 101, 118, 101, 114] then 18446744073709551615 else timeX x
def bkLw (s : List UInt8) : Bk := ⟨numL (wordsL s) 0, idxL whyWs (wordsL s) 1, timeL (wordsL s)⟩
def lawT (s : List UInt8) : Option Tk := if (tkL s).ok = true ∧ taskB (tkL s) = s then some (tkL s) else none
def lawC (s : List UInt8) : Option Cd := if (cdL s).ok = true ∧ cdB (cdL s) = s then some (cdL s) else none
def lawK (s : List UInt8) : Option Bk := if (bkLw s).ok = true ∧ bkB (bkLw s) = s then some (bkLw s) else none
theorem filt_app (a b : List UInt8) : (a ++ b).filter keepB = a.filter keepB ++ b.filter keepB := List.filter_append ..
theorem filt_id (a : List UInt8) (h44 : 44 ∉ a) (h58 : 58 ∉ a) (h10 : 10 ∉ a) : a.filter keepB = a := by
  rw [List.filter_eq_self]
  intro c hc
  have h1 : c ≠ 44 := fun e => h44 (e ▸ hc)
  have h2 : c ≠ 58 := fun e => h58 (e ▸ hc)
  have h3 : c ≠ 10 := fun e => h10 (e ▸ hc)
  simp [keepB, h1, h2, h3]
theorem filt_itoa (n : Int) : (Lib.itoa n).filter keepB = Lib.itoa n :=
  filt_id _ (itoa_no n 44 (by decide) (by unfold isDig; decide)) (itoa_no n 58 (by decide) (by unfold isDig; decide)) (itoa_no n 10 (by decide) (by unfold isDig; decide))
theorem wordsL_task (x : Tk) : wordsL (taskB x) = tkWds x := by
  have h1 : [32].filter keepB = [32] := rfl
  have h2 : [44, 32].filter keepB = [32] := rfl
  have h3 : [58, 32].filter keepB = [32] := rfl
  have h4 : [10].filter keepB = [] := rfl
  have e : (taskB x).filter keepB = Lib.join (tkWds x) [32] := by
    rw [taskB_body]
    unfold tkBody tkWds
    simp only [filt_app, filt_itoa, h1, h2, h3, h4]
    simp [Lib.join_cons, Lib.joinTail, keepB]
  unfold wordsL
  rw [e, spl_join _ (by simp [tkWds]) (tkWds_no x)]
theorem tkL_task (x : Tk) (hwf : x.wf) : tkL (taskB x) = x := by
  obtain ⟨h1, hwn⟩ := hwf
  have h2 := hwn x.calls (by simp [Tk.nums])
  have h3 := hwn x.refused (by simp [Tk.nums])
  have h4 := hwn x.steps (by simp [Tk.nums])
  have h5 := hwn x.ended (by simp [Tk.nums])
  have h6 := hwn x.failed (by simp [Tk.nums])
  have h7 := hwn x.read (by simp [Tk.nums])
  have h8 := hwn x.written (by simp [Tk.nums])
  unfold tkL
  rw [wordsL_task]
  unfold tkWds numL
  simp only [List.getElem?_cons_succ, List.getElem?_cons_zero]
  rw [numX_itoa _ h1, numX_itoa _ h2, numX_itoa _ h3, numX_itoa _ h4, numX_itoa _ h5, numX_itoa _ h6, numX_itoa _ h7, numX_itoa _ h8]
theorem tkL_wf (s : List UInt8) : (tkL s).wf := by
  refine ⟨numL_i64 _ _, fun n hn => ?_⟩
  simp only [tkL, Tk.nums, List.mem_cons, List.not_mem_nil, or_false] at hn
  rcases hn with rfl | rfl | rfl | rfl | rfl | rfl | rfl
  all_goals exact numL_i64 _ _
theorem lawT_eq (s : List UInt8) : lawT s = rdOf (fun t => tkRead (splitS (remB t))) Tk.ok taskB s := by
  by_cases h : ∃ x : Tk, x.ok = true ∧ x.wf ∧ taskB x = s
  · obtain ⟨x, hok, hwf, rfl⟩ := h
    rw [tk_read x hok hwf]
    unfold lawT
    rw [tkL_task x hwf, if_pos ⟨hok, rfl⟩]
  · have e1 : lawT s = none := by
      unfold lawT
      rw [if_neg]
      rintro ⟨h1, h2⟩
      exact h ⟨_, h1, tkL_wf _, h2⟩
    rw [e1]
    unfold rdOf
    rw [if_neg]
    rintro ⟨h1, h2⟩
    exact h ⟨_, h1, tkRead_wf _, h2⟩
theorem join_filt (ws : List (List UInt8)) (h : ∀ y ∈ ws, y.filter keepB = y) : (Lib.join ws [32]).filter keepB = Lib.join ws [32] := by
  have h1 : [32].filter keepB = [32] := rfl
  match ws, h with
  | [], _ => rfl
  | x :: r, h =>
    rw [Lib.join_cons, filt_app, h x (by simp)]
    congr 1
    unfold Lib.joinTail
    have : ∀ r : List (List UInt8), (∀ y ∈ r, y.filter keepB = y) → ((r.map ([32] ++ ·)).flatten).filter keepB = (r.map ([32] ++ ·)).flatten := by
      intro r
      induction r with
      | nil => intro _; rfl
      | cons y q ih =>
        intro hq
        simp only [List.map_cons, List.flatten_cons]
        rw [filt_app, filt_app, h1, hq y (by simp), ih (fun z hz => hq z (List.mem_cons_of_mem _ hz))]
    exact this r (fun y hy => h y (List.mem_cons_of_mem _ hy))
theorem wordsL_join (ws : List (List UInt8)) (h0 : ws ≠ []) (h : ∀ y ∈ ws, y.filter keepB = y) (h32 : ∀ y ∈ ws, 32 ∉ y) : wordsL (Lib.join ws [32] ++ [10]) = ws := by
  unfold wordsL
  rw [filt_app, join_filt ws h, show [10].filter keepB = ([] : List UInt8) from rfl, List.append_nil, spl_join ws h0 h32]
theorem tbl_filt : (∀ i, i < 13 → (callWs.getD i []).filter keepB = callWs.getD i []) ∧ (∀ i, i < 17 → (codeWs.getD i []).filter keepB = codeWs.getD i []) ∧ ∀ i, i < 7 → (whyWs.getD i []).filter keepB = whyWs.getD i [] := by decide
theorem tbl_idx : (∀ i, i < 13 → 0 < i → idxG (callWs.getD i []) 0 (callWs.drop 1) = (i : Int) - 1) ∧ (∀ i, i < 17 → idxG (codeWs.getD i []) 0 codeWs = (i : Int)) ∧ ∀ i, i < 7 → idxG (whyWs.getD i []) 0 whyWs = (i : Int) := by decide
theorem code_no (u : Nat) : idxG (Lib.decDigits u) 0 codeWs = -1 := by
  refine idxG_none _ _ _ (fun h => ?_)
  have hd : ∀ y ∈ codeWs, ∃ c ∈ y, ¬ (48 ≤ c.toNat ∧ c.toNat ≤ 57) := by decide
  obtain ⟨c, hc, hn⟩ := hd _ h
  exact hn (decDigits_dig u c hc)
theorem cdL_code (x : Cd) (hok : x.ok = true) (hwf : x.wf) : cdL (cdB x) = x := by
  have hno := cdWords_no x hok 32 (.inl rfl)
  unfold Cd.ok at hok
  simp only [decide_eq_true_eq] at hok
  obtain ⟨k, e, n⟩ := x
  obtain ⟨i1, i2, i3⟩ := hwf
  simp only at hok i1 i2 i3 hno
  obtain ⟨k, rfl⟩ : ∃ u : Nat, k = u := ⟨k.toNat, by omega⟩
  obtain ⟨e, rfl⟩ : ∃ u : Nat, e = u := ⟨e.toNat, by omega⟩
  have hk : callB (k : Int) = callWs.getD k [] := by unfold callB; rw [if_pos (by omega)]; rfl
  have hw : wordsL (cdB ⟨k, e, n⟩) = [callB k, codeB e, Lib.itoa n] := by
    unfold cdB
    refine wordsL_join _ (by simp) (fun y hy => ?_) hno
    simp only [List.mem_cons, List.not_mem_nil, or_false] at hy
    rcases hy with rfl | rfl | rfl
    · rw [hk]
      exact tbl_filt.1 k (by omega)
    · by_cases he : e < 17
      · have hc : codeB (e : Int) = codeWs.getD e [] := by unfold codeB; rw [if_pos (by omega)]; rfl
        rw [hc]
        exact tbl_filt.2.1 e he
      · have hc : codeB (e : Int) = Lib.itoa e := by unfold codeB; rw [if_neg (by omega)]
        rw [hc]
        exact filt_itoa _
    · exact filt_itoa _
  unfold cdL
  rw [hw]
  unfold idxL numL
  simp only [List.getElem?_cons_succ, List.getElem?_cons_zero]
  rw [numX_itoa _ i3, hk, tbl_idx.1 k (by omega) (by omega)]
  have e1 : (k : Int) - 1 + 1 = k := by omega
  rw [e1]
  by_cases he : e < 17
  · have hc : codeB (e : Int) = codeWs.getD e [] := by unfold codeB; rw [if_pos (by omega)]; rfl
    rw [hc, tbl_idx.2.1 e he, if_neg (by omega)]
  · have hc : codeB (e : Int) = Lib.decDigits e := by unfold codeB; rw [if_neg (by omega), Lib.itoa_nonneg]
    have h2 : numX (Lib.decDigits e) = (e : Int) := by rw [← Lib.itoa_nonneg]; exact numX_itoa _ i2
    rw [hc, code_no, if_pos (by omega), h2]
theorem cdL_wf (s : List UInt8) : (cdL s).wf := by
  have h1 := idxL_rng (callWs.drop 1) (wordsL s) 0
  have h2 := idxL_rng codeWs (wordsL s) 1
  have h3 : (callWs.drop 1).length = 12 := rfl
  have h4 : codeWs.length = 17 := rfl
  unfold cdL
  refine ⟨?_, ?_, numL_i64 _ _⟩
  · show I64 (idxL (callWs.drop 1) (wordsL s) 0 + 1)
    unfold I64
    omega
  · show I64 (if idxL codeWs (wordsL s) 1 < 0 then numL (wordsL s) 1 else idxL codeWs (wordsL s) 1)
    split
    · exact numL_i64 _ _
    · unfold I64
      omega
theorem lawC_eq (s : List UInt8) : lawC s = rdOf (fun t => cdRead (splitS t)) Cd.ok cdB s := by
  by_cases h : ∃ x : Cd, x.ok = true ∧ x.wf ∧ cdB x = s
  · obtain ⟨x, hok, hwf, rfl⟩ := h
    rw [cd_read x hok hwf]
    unfold lawC
    rw [cdL_code x hok hwf, if_pos ⟨hok, rfl⟩]
  · have e1 : lawC s = none := by
      unfold lawC
      rw [if_neg]
      rintro ⟨h1, h2⟩
      exact h ⟨_, h1, cdL_wf s, h2⟩
    rw [e1]
    unfold rdOf
    rw [if_neg]
    rintro ⟨h1, h2⟩
    exact h ⟨_, h1, cdRead_wf _, h2⟩
theorem tstep_dig (z : Nat) (c : UInt8) (hc : isDig c) (h : dstep z c ≤ 18446744073709551615) : tstep (z : Int) c = (dstep z c : Nat) := by
  unfold tstep
  unfold dstep at h ⊢
  unfold isDig at hc
  simp [IntKind.wrap, IntKind.signed, IntKind.bits]
  omega
theorem tfold_dig : ∀ (l : List UInt8) (z : Nat), (∀ c ∈ l, isDig c) → l.foldl dstep z ≤ 18446744073709551615 → l.foldl tstep (z : Int) = (l.foldl dstep z : Nat)
  | [], z, _, _ => rfl
  | c :: r, z, hd, h => by
    simp only [List.foldl_cons] at h ⊢
    have h1 := dfold_ge r (dstep z c)
    rw [tstep_dig z c (hd c (by simp)) (by omega)]
    exact tfold_dig r _ (fun x hx => hd x (List.mem_cons_of_mem _ hx)) h
theorem timeX_dec (u : Nat) (h : u < 18446744073709551615) : timeX (Lib.decDigits u) = (u : Int) := by
  unfold timeX
  have h20 : (Lib.decDigits u).length ≤ 20 := digits_len20 u (by omega)
  rw [List.take_of_length_le (by omega)]
  have e := dval_decDigits u
  unfold dval at e
  have := tfold_dig (Lib.decDigits u) 0 (decDigits_dig u) (by omega)
  rw [e] at this
  exact this
theorem bkL_blk (x : Bk) (hok : x.ok = true) (hwf : x.wf) : bkLw (bkB x) = x := by
  have hno := bkWords_no x hok hwf 32 (.inl rfl)
  have hno10 := bkWords_no x hok hwf 10 (.inr rfl)
  unfold Bk.ok at hok
  simp only [decide_eq_true_eq] at hok
  obtain ⟨t, y, z⟩ := x
  obtain ⟨i1, i2, i3, i4⟩ := hwf
  simp only at hok i1 i2 i3 i4 hno hno10
  obtain ⟨y, rfl⟩ : ∃ u : Nat, y = u := ⟨y.toNat, by omega⟩
  obtain ⟨z, rfl⟩ : ∃ u : Nat, z = u := ⟨z.toNat, by omega⟩
  have hti : timeB (z : Int) = [110, 101, 118, 101, 114] ∧ z = 18446744073709551615 ∨ timeB (z : Int) = Lib.decDigits z ∧ z < 18446744073709551615 := by
    unfold timeB
    by_cases hz : z = 18446744073709551615
    · exact .inl ⟨by rw [if_pos (by omega)], hz⟩
    · exact .inr ⟨by rw [if_neg (by omega)]; rfl, by omega⟩
  have hw : wordsL (bkB ⟨t, y, z⟩) = [Lib.itoa t, whyWs.getD y [], [117, 110, 116, 105, 108], timeB z] := by
    unfold bkB
    refine wordsL_join _ (by simp) (fun a ha => ?_) hno
    simp only [List.mem_cons, List.not_mem_nil, or_false, Int.toNat_natCast] at ha
    rcases ha with rfl | rfl | rfl | rfl
    · exact filt_itoa _
    · exact tbl_filt.2.2 y (by omega)
    · rfl
    · rcases hti with ⟨h1, _⟩ | ⟨h1, _⟩
      · rw [h1]
        rfl
      · rw [h1, ← Lib.itoa_nonneg]
        exact filt_itoa _
  unfold bkLw
  rw [hw]
  unfold idxL numL timeL
  simp only [List.getElem?_cons_succ, List.getElem?_cons_zero]
  rw [numX_itoa _ i1, tbl_idx.2.2 y (by omega)]
  rcases hti with ⟨h1, h2⟩ | ⟨h1, h2⟩
  · rw [h1, if_pos rfl, h2]
    rfl
  · rw [h1, if_neg (decDigits_ne z), timeX_dec z h2]
theorem tfold_rng : ∀ (l : List UInt8) (z : Int), 0 ≤ z ∧ z < 18446744073709551616 → 0 ≤ l.foldl tstep z ∧ l.foldl tstep z < 18446744073709551616
  | [], z, h => h
  | c :: r, z, h => by
    refine tfold_rng r _ ?_
    unfold tstep
    simp [IntKind.wrap, IntKind.signed, IntKind.bits]
    omega
theorem timeL_rng (ws : List (List UInt8)) : 0 ≤ timeL ws ∧ timeL ws < 18446744073709551616 := by
  unfold timeL
  split
  · omega
  · split
    · omega
    · exact tfold_rng _ 0 (by omega)
theorem bkL_wf (s : List UInt8) : (bkLw s).wf := by
  have h1 := idxL_rng whyWs (wordsL s) 1
  have h2 : whyWs.length = 7 := rfl
  have h3 := timeL_rng (wordsL s)
  unfold bkLw
  refine ⟨numL_i64 _ _, ?_, h3.1, h3.2⟩
  show I64 (idxL whyWs (wordsL s) 1)
  unfold I64
  omega
theorem lawK_eq (s : List UInt8) : lawK s = rdOf (fun t => bkRead (splitS t)) Bk.ok bkB s := by
  by_cases h : ∃ x : Bk, x.ok = true ∧ x.wf ∧ bkB x = s
  · obtain ⟨x, hok, hwf, rfl⟩ := h
    rw [bk_read x hok hwf]
    unfold lawK
    rw [bkL_blk x hok hwf, if_pos ⟨hok, rfl⟩]
  · have e1 : lawK s = none := by
      unfold lawK
      rw [if_neg]
      rintro ⟨h1, h2⟩
      exact h ⟨_, h1, bkL_wf s, h2⟩
    rw [e1]
    unfold rdOf
    rw [if_neg]
    rintro ⟨h1, h2⟩
    exact h ⟨_, h1, bkRead_wf _, h2⟩
/-! How many of the first lines are right. -/
def prefL {α : Type} (rd : List UInt8 → Option α) : List (List UInt8) → Nat
  | [] => 0
  | t :: ts => if (rd t).isSome = true then prefL rd ts + 1 else 0
theorem parse_pref {α : Type} (rd : List UInt8 → Option α) : ∀ (ts : List (List UInt8)) (out : List α), out.length + ts.length ≤ 1000 →
    (prefL rd ts = ts.length ∧ ∃ xs, parseL rd ts out = (out ++ xs, 0, 0) ∧ xs.length = ts.length ∧ ∀ (i : Nat) t, ts[i]? = some t → ∃ x, rd t = some x ∧ xs[i]? = some x) ∨
    (prefL rd ts < ts.length ∧ parseL rd ts out = ([], (out.length : Int) + prefL rd ts + 1, 6))
  | [], out, _ => .inl ⟨rfl, [], by simp [parseL], rfl, fun i t h => by simp at h⟩
  | t :: ts, out, hl => by
    simp only [List.length_cons] at hl
    cases hr : rd t with
    | none =>
      refine .inr ⟨by simp [prefL, hr], ?_⟩
      rw [parseL, if_neg (by omega), hr]
      simp [prefL, hr]
    | some x =>
      have ih := parse_pref rd ts (out ++ [x]) (by simp; omega)
      rw [parseL, if_neg (by omega), hr]
      simp only [prefL, hr, Option.isSome_some, if_true, List.length_cons]
      rcases ih with ⟨h1, xs, h2, h3, h4⟩ | ⟨h1, h2⟩
      · refine .inl ⟨by omega, x :: xs, by rw [h2]; simp, by simp [h3], fun i u hu => ?_⟩
        match i with
        | 0 =>
          simp only [List.getElem?_cons_zero, Option.some.injEq] at hu
          subst hu
          exact ⟨x, hr, rfl⟩
        | i + 1 =>
          simp only [List.getElem?_cons_succ] at hu ⊢
          exact h4 i u hu
      · refine .inr ⟨by omega, ?_⟩
        rw [h2]
        simp
        omega
theorem pref_take {α : Type} (rd : List UInt8 → Option α) : ∀ (ts : List (List UInt8)) (q : Nat) (t : List UInt8), ts[q]? = some t → prefL rd (ts.take (q + 1)) = if prefL rd (ts.take q) = q ∧ (rd t).isSome = true then q + 1 else prefL rd (ts.take q)
  | [], q, t, h => by simp at h
  | u :: ts, 0, t, h => by
    simp only [List.getElem?_cons_zero, Option.some.injEq] at h
    subst h
    simp [prefL]
  | u :: ts, q + 1, t, h => by
    simp only [List.getElem?_cons_succ] at h
    have ih := pref_take rd ts q t h
    rw [List.take_succ_cons, List.take_succ_cons, prefL, prefL]
    by_cases hu : (rd u).isSome = true
    · rw [if_pos hu, if_pos hu, ih]
      by_cases hc : prefL rd (ts.take q) = q ∧ (rd t).isSome = true
      · rw [if_pos hc, if_pos ⟨by omega, hc.2⟩]
      · rw [if_neg hc, if_neg (fun e => hc ⟨by omega, e.2⟩)]
    · rw [if_neg hu, if_neg hu, if_neg (fun e => by omega)]
theorem pref_le {α : Type} (rd : List UInt8 → Option α) : ∀ (ts : List (List UInt8)), prefL rd ts ≤ ts.length
  | [] => Nat.le_refl _
  | t :: ts => by
    have := pref_le rd ts
    rw [prefL]
    split <;> simp only [List.length_cons] <;> omega
end Go.Proofs.YtllmejkcohfbiaaGreatDoor
namespace Go.Proofs.YtllmejkcohfbiaaGreatDoor
open Go.RowKit Go.Shelf Go.Sort Go.Lib
set_option linter.unusedVariables false
set_option linter.unusedSimpArgs false
set_option maxRecDepth 100000
set_option maxHeartbeats 16000000

theorem bs_extract (l : List UInt8) (i j : Nat) : (bs l).extract i j = bs ((l.take j).drop i) := by
  unfold bs
  rw [ByteArray.ext_iff]
  simp [ByteArray.data_extract]
  rw [List.drop_take]
theorem slStr (l : List UInt8) (i j : Nat) (h : i ≤ j) (hj : j ≤ l.length) (W : World) : (Instr.slice 9 (.string (bs l)) (some (.int .i64 (i : Int))) (some (.int .i64 (j : Int))) none).run Tryz.prog W = .ok (.string (bs ((l.take j).drop i))) W := by
  rw [run_slice_string (P := Tryz.prog) (w := W) 9 (bs l) .i64 .i64 (i : Int) (j : Int) Tryz.underlying9 (by omega) (by omega) (by rw [bs_size]; omega), Int.toNat_natCast, Int.toNat_natCast, bs_extract]
theorem slStrL (l : List UInt8) (i : Nat) (hj : i ≤ l.length) (W : World) : (Instr.slice 9 (.string (bs l)) (some (.int .i64 (i : Int))) none none).run Tryz.prog W = .ok (.string (bs (l.drop i))) W := by
  rw [run_slice_string_l (P := Tryz.prog) (w := W) (t := 9) (s := bs l) (ht := Tryz.underlying9) .i64 (i : Int) (by omega) (by rw [bs_size]; omega), Int.toNat_natCast, bs_size, bs_extract, List.take_of_length_le (Nat.le_refl _)]
theorem SRow.more {W' : World} {lo : Nat} {v' : Value} {xs : List (List UInt8)} {x : List UInt8} (h : W'.ownsRow lo 9 1 v' (xs.length + 1) ((xs.map fun x => Value.string (bs x)) ++ [.string (bs x)])) : SRow W' lo v' (xs ++ [x]) := by
  unfold SRow
  rw [List.length_append, List.map_append]
  exact h
theorem one_new (W : World) (x : List UInt8) : ∀ j u, [Value.string (bs x)][j]? = some u → (W.alloc (.cells #[.string (bs x)] 9)).cell? ((⟨W.heap.size, 0, none⟩ : Addr).add j) = some u := fun j u hj => by
  match j with
  | 0 => cases hj; simp [Addr.add]
  | j + 1 => simp at hj
theorem partsL_any (l : List UInt8) (hl : l.length ≤ 100000) (w : World) :
    Calls Tryz.prog 28 #[.string (bs l)] w fun e w' => ∃ v, e = .returned v ∧ SRow w' w.heap.size v (linesGo [] l) ∧ Fr [] w w' := by
  have hsz : (bs l).size = l.length := bs_size l
  obtain ⟨n, hn⟩ : ∃ n, l.length = n := ⟨_, rfl⟩
  rw [hn] at hl hsz
  have HN := Lib.hid hn
  obtain ⟨i0, hi, hz0, hz1, hz2⟩ := info_parts infoStr
  clear hn
  go_enter Tryz.func28, Tryz.ntmps28
  go_wp2
  go_loopw [3, 4, 5] (fun s3 s4 s5 wr => ∃ (wz : World) (q f m : Nat) (xs : List (List UInt8)) (a : Option Addr) (c : Nat), wz = wr ∧ s5 = .int .i64 q ∧ s4 = .int .i64 f ∧ s3 = .slice a m c ∧ xs.length = m ∧ q ≤ n ∧ f ≤ q ∧ m ≤ q ∧ SRow wr w.heap.size (.slice a m c) xs ∧ xs ++ linesGo ((l.take q).drop f) (l.drop q) = linesGo [] l ∧ Fr [] w wr) (fun _ _ s5 _ => n - (intOf s5).toNat)
  case atStart => exact ⟨_, 0, 0, 0, [], none, 0, rfl, rfl, rfl, rfl, rfl, by omega, by omega, by omega, World.ownsRow_nil _ _ _ _, rfl, Fr.refl _ _⟩
  case round =>
    obtain ⟨wr, q, f, m, xs, a, c, hwz, rfl, rfl, rfl, hm, hq, hf, hmq, hR, hP, hF⟩ := hrel
    subst hwz
    have HR := Lib.hid hR
    have HP := Lib.hid hP
    have HF := Lib.hid hF
    have HM := Lib.hid hm
    clear hR hP hF hm
    by_cases hlt : q < n
    · have hlt' : (q : Int) < (n : Int) := by omega
      have hx := List.getElem?_eq_getElem (l := l) (i := q) (by rw [HN.out]; exact hlt)
      obtain ⟨b, hbe⟩ : ∃ c, l[q]'(by rw [HN.out]; exact hlt) = c := ⟨_, rfl⟩
      rw [hbe] at hx
      have hidx := fun W => idxStr l q b hx W
      have hdq : l.drop q = b :: l.drop (q + 1) := by
        rw [List.drop_eq_getElem_cons (by rw [HN.out]; exact hlt), hbe]
      have htk : (l.take (q + 1)).drop f = (l.take q).drop f ++ [b] := by
        rw [List.take_add_one, hx, List.drop_append_of_le_length (by rw [List.length_take, HN.out]; omega)]
        rfl
      by_cases h10 : b = 10
      · subst h10
        have h10' : ((10 : UInt8).toNat : Int) = 10 := rfl
        rw [h10'] at hidx
        have hsl := fun W => slStr l f (q + 1) (by omega) (by rw [HN.out]; omega) W
        have e1 : ((q + 1 : Nat) : Int) = (q : Int) + 1 := by omega
        rw [e1] at hsl
        have fA : Fr [] wr (wr.alloc (.cells #[.string (bs ((l.take (q + 1)).drop f))] 9)) := (Fr.refl [] wr).alloc _
        have hRA := HR.out.new fA
        unfold SRow at hRA
        rw [HM.out] at hRA
        have HRA := Lib.hid hRA
        have HFA := Lib.hid (HF.out.step fA)
        have HPN := Lib.hid (show (xs ++ [(l.take (q + 1)).drop f]) ++ linesGo ((l.take (q + 1)).drop (q + 1)) (l.drop (q + 1)) = linesGo [] l from by
          have e0 : (l.take (q + 1)).drop (q + 1) = [] := List.drop_of_length_le (by rw [List.length_take]; omega)
          rw [← HP.out, hdq, linesGo, if_pos rfl, htk, e0]
          simp)
        have hbase : w.heap.size ≤ (wr.alloc (.cells #[.string (bs ((l.take (q + 1)).drop f))] 9)).heap.size := HFA.out.size
        have hnew := one_new wr ((l.take (q + 1)).drop f)
        obtain ⟨y, hy⟩ : ∃ y, (l.take (q + 1)).drop f = y := ⟨_, rfl⟩
        rw [hy] at hsl HPN HRA HFA hbase hnew
        have HB := Lib.hid hbase
        clear hx hbe hdq htk fA hRA hy hbase
        go_wp2_with (first
          | (at_builtin; refine wpList_append_own _ rfl _ _ 34 rfl w.heap.size 9 i0 _ 1 16 Tryz.underlying34 hi hz0 hz1 hz2 rfl (by omega) (.slice a m c) m _ rfl HRA.out ⟨wr.heap.size, 0, none⟩ 1 1 [.string (bs y)] rfl rfl hnew (by simp [Value.oneCell']) (by unfold maxLen; omega) (by omega) HB.out ?_; intro v' w1 hown hgrow hnil; obtain ⟨aw, cw, rfl⟩ := row_val' hown; have HOW := Lib.hid hown; have HGR := Lib.hid hgrow; clear hown hgrow hnil)
          | fail)
        have HOB := Lib.hid (fun q e => rowBlkV HRA.out q e)
        have HF1 := Lib.hid (show Fr [] w w1 from HFA.out.trans (grownFrV (S := (Value.slice a m c).ownBlock.toList) HGR.out (fun k e => by have e' : (Value.slice a m c).ownBlock = some k := e; rw [e']; simp)) (fun x hx hl => by
          have := HOB.out x (by simpa using hx)
          omega))
        have HS1 := Lib.hid (SRow.more (xs := xs) (by rw [HM.out]; exact HOW.out))
        go_wp2
        go_roundw
        case rel => exact ⟨_, q + 1, q + 1, m + 1, _, _, _, rfl, by go_num, by go_num, rfl, by rw [List.length_append, HM.out]; rfl, by omega, by omega, by omega, HS1.out, HPN.out, HF1.out⟩
        case measure => simp [intOf]; omega
      · have hb10 : ((b.toNat : Int) == 10) = false := by
          rw [beq_eq_false_iff_ne]
          intro e
          exact h10 (UInt8.toNat_inj.1 (by have : (10 : UInt8).toNat = 10 := rfl; omega))
        have hb10' : decide ((b.toNat : Int) = 10) = false := decide_eq_false (fun e => h10 (UInt8.toNat_inj.1 (by have : (10 : UInt8).toNat = 10 := rfl; omega)))
        have hbn : ¬ (b.toNat : Int) = 10 := of_decide_eq_false hb10'
        have HPN := Lib.hid (show xs ++ linesGo ((l.take (q + 1)).drop f) (l.drop (q + 1)) = linesGo [] l from by
          rw [← HP.out, hdq, linesGo, if_neg h10, htk])
        clear hx hbe hdq htk h10
        go_wp2
        go_roundw
        case rel => exact ⟨_, q + 1, f, m, xs, a, c, rfl, by go_num, rfl, rfl, HM.out, by omega, by omega, by omega, HR.out, HPN.out, HF.out⟩
        case measure => simp [intOf]; omega
    · have hqn : n = q := by omega
      subst hqn
      have hP2 := HP.out
      have d1 : l.drop n = [] := List.drop_of_length_le (by rw [HN.out]; exact Nat.le_refl _)
      have d2 : l.take n = l := List.take_of_length_le (by rw [HN.out]; exact Nat.le_refl _)
      rw [d1, d2, linesGo] at hP2
      clear d1 d2
      by_cases hfn : f < n
      · have hfn' : (f : Int) < (n : Int) := by omega
        rw [if_neg (fun e => by
          have := congrArg List.length e
          rw [List.length_drop, HN.out] at this
          simp at this
          omega)] at hP2
        have hsl := fun W => slStrL l f (by rw [HN.out]; omega) W
        have fA : Fr [] wr (wr.alloc (.cells #[.string (bs (l.drop f))] 9)) := (Fr.refl [] wr).alloc _
        have hRA := HR.out.new fA
        unfold SRow at hRA
        rw [HM.out] at hRA
        have HRA := Lib.hid hRA
        have HFA := Lib.hid (HF.out.step fA)
        have hbase : w.heap.size ≤ (wr.alloc (.cells #[.string (bs (l.drop f))] 9)).heap.size := HFA.out.size
        have hnew := one_new wr (l.drop f)
        obtain ⟨y, hy⟩ : ∃ y, l.drop f = y := ⟨_, rfl⟩
        rw [hy] at hsl hP2 HRA HFA hbase hnew
        have HPN := Lib.hid hP2
        have HB := Lib.hid hbase
        clear fA hRA hy hP2 hbase
        go_wp2_with (first
          | (at_builtin; refine wpList_append_own _ rfl _ _ 34 rfl w.heap.size 9 i0 _ 1 16 Tryz.underlying34 hi hz0 hz1 hz2 rfl (by omega) (.slice a m c) m _ rfl HRA.out ⟨wr.heap.size, 0, none⟩ 1 1 [.string (bs y)] rfl rfl hnew (by simp [Value.oneCell']) (by unfold maxLen; omega) (by omega) HB.out ?_; intro v' w1 hown hgrow hnil; obtain ⟨aw, cw, rfl⟩ := row_val' hown; have HOW := Lib.hid hown; have HGR := Lib.hid hgrow; clear hown hgrow hnil)
          | fail)
        have HOB := Lib.hid (fun q e => rowBlkV HRA.out q e)
        have HF1 := Lib.hid (show Fr [] w w1 from HFA.out.trans (grownFrV (S := (Value.slice a m c).ownBlock.toList) HGR.out (fun k e => by have e' : (Value.slice a m c).ownBlock = some k := e; rw [e']; simp)) (fun x hx hl => by
          have := HOB.out x (by simpa using hx)
          omega))
        have HS1 := Lib.hid (SRow.more (xs := xs) (by rw [HM.out]; exact HOW.out))
        go_wp2
        go_ret
        exact ⟨_, rfl, by rw [← HPN.out]; exact HS1.out, HF1.out⟩
      · have hfq : ¬ (f : Int) < (n : Int) := by omega
        rw [if_pos (List.drop_of_length_le (by rw [HN.out]; omega)), List.append_nil] at hP2
        have HPN := Lib.hid hP2
        clear hP2
        go_wp2
        go_ret
        exact ⟨_, rfl, by rw [← HPN.out]; have h := HR.out; exact h, HF.out⟩
end Go.Proofs.YtllmejkcohfbiaaGreatDoor
namespace Go.Proofs.YtllmejkcohfbiaaGreatDoor
open Go.RowKit Go.Shelf Go.Sort Go.Lib
set_option linter.unusedVariables false
set_option linter.unusedSimpArgs false
set_option maxRecDepth 100000
set_option maxHeartbeats 16000000

theorem SRow.fz {W : World} {lo g n c : Nat} {xs : List (List UInt8)} (h : SRow W lo (.slice (some ⟨g, 0, none⟩) n c) xs) (o : Nat) : W.frozen? ⟨g, o, none⟩ = false := by
  rcases h.2 with ⟨h1, _⟩ | ⟨g', cap, cur, h1, h2, h3, _⟩
  · cases h1
  · simp only [Value.slice.injEq, Option.some.injEq, Addr.mk.injEq] at h1
    obtain ⟨⟨rfl, _, _⟩, _, _⟩ := h1
    simp [World.frozen?, h3]
theorem SRow.low {W : World} {lo g n c : Nat} {xs : List (List UInt8)} (h : SRow W lo (.slice (some ⟨g, 0, none⟩) n c) xs) : lo ≤ g := by
  rcases h.2 with ⟨h1, _⟩ | ⟨g', cap, cur, h1, h2, h3, _⟩
  · cases h1
  · simp only [Value.slice.injEq, Option.some.injEq, Addr.mk.injEq] at h1
    obtain ⟨⟨rfl, _, _⟩, _, _⟩ := h1
    exact h2
theorem SRow.put {W : World} {lo g n c : Nat} {xs : List (List UInt8)} (h : SRow W lo (.slice (some ⟨g, 0, none⟩) n c) xs) (k : Nat) (hk : k < xs.length) (y : List UInt8) : SRow (W.setCell ⟨g, k, none⟩ (.string (bs y))) lo (.slice (some ⟨g, 0, none⟩) n c) (xs.set k y) := by
  obtain ⟨hlen, h | ⟨g', cap, cur, h1, h2, h3, h4, h5, h6, h7⟩⟩ := h
  · cases h.1
  · simp only [Value.slice.injEq, Option.some.injEq, Addr.mk.injEq] at h1
    obtain ⟨⟨rfl, _, _⟩, hn, hc⟩ := h1
    unfold SRow
    rw [List.length_set]
    refine ⟨by simp, .inr ⟨g, cap, cur.setIfInBounds k (.string (bs y)), ?_, h2, ?_, h4, h5, by simp [h6], ?_⟩⟩
    · rw [hn, hc]
    · show (W.heap.modify g _)[g]? = _
      rw [Array.getElem?_modify, if_pos rfl, h3]
      rfl
    · rw [Nat.mul_one] at h7 ⊢
      rw [Array.toList_setIfInBounds, List.take_set, h7, List.map_set]
theorem wordsL_len : ∀ (l : List UInt8) , (wordsL l).length ≤ l.length + 1 := by
  have : ∀ (a cur : List UInt8), (spl cur a).length ≤ a.length + 1 := by
    intro a
    induction a with
    | nil => intro cur; simp [spl]
    | cons b r ih =>
      intro cur
      rw [spl]
      split
      · have := ih []
        simp only [List.length_cons]
        omega
      · have := ih (cur ++ [b])
        simp only [List.length_cons]
        omega
  intro l
  have h1 := this (l.filter keepB) []
  have h2 := List.length_filter_le keepB l
  unfold wordsL
  omega
theorem wordsL_short : ∀ (l : List UInt8), ∀ x ∈ wordsL l, x.length ≤ l.length := by
  have : ∀ (a cur : List UInt8), ∀ x ∈ spl cur a, x.length ≤ cur.length + a.length := by
    intro a
    induction a with
    | nil => intro cur x hx; simp [spl] at hx; subst hx; simp
    | cons b r ih =>
      intro cur x hx
      rw [spl] at hx
      split at hx
      · rcases List.mem_cons.1 hx with rfl | hx
        · omega
        · have := ih [] x hx
          simp only [List.length_cons, List.length_nil] at this ⊢
          omega
      · have := ih _ x hx
        simp only [List.length_append, List.length_cons, List.length_nil] at this ⊢
        omega
  intro l x hx
  have h1 := this (l.filter keepB) [] x hx
  have h2 := List.length_filter_le keepB l
  simp only [List.length_nil] at h1
  omega
theorem byte_ne (b : UInt8) (k : Nat) (hk : k < 256) (h : b ≠ UInt8.ofNat k) : ¬ (b.toNat : Int) = k := fun e => h (UInt8.toNat_inj.1 (by simp [UInt8.toNat_ofNat]; omega))
theorem addStrO (x y : List UInt8) (hx : x.length ≤ 1000000) (hy : y.length ≤ 1000000) (W : World) : (Op.stringOp .add (bs x) (bs y)).run Tryz.prog W = .ok (.string (bs (x ++ y))) W := by
  rw [run_string_add W (bs x) (bs y) (by rw [bs_size]; omega) (by rw [bs_size]; omega), bs_append]
theorem wordsL_any (l : List UInt8) (hl : l.length ≤ 100000) (w : World) :
    Calls Tryz.prog 65 #[.string (bs l)] w fun e w' => ∃ v, e = .returned v ∧ SRow w' w.heap.size v (wordsL l) ∧ Fr [] w w' := by
  have hsz : (bs l).size = l.length := bs_size l
  obtain ⟨n, hn⟩ : ∃ n, l.length = n := ⟨_, rfl⟩
  rw [hn] at hl hsz
  have HN := Lib.hid hn
  obtain ⟨i0, hi, hz0, hz1, hz2⟩ := info_parts infoStr
  have HR0 := Lib.hid (SRow.built w w.heap.size [[]] #[.string ⟨#[]⟩] rfl (Nat.le_refl _) (by simp))
  have HF0 := Lib.hid (show Fr [] w (w.alloc (.cells #[.string ⟨#[]⟩] 9)) from (Fr.refl [] w).alloc _)
  clear hn
  go_enter Tryz.func65, Tryz.ntmps65
  go_wp2
  go_loopw [3, 4] (fun s3 s4 wr => ∃ (wz : World) (q k : Nat) (xs : List (List UInt8)) (g c : Nat), wz = wr ∧ s4 = .int .i64 q ∧ s3 = .slice (some ⟨g, 0, none⟩) (k + 1) c ∧ xs.length = k + 1 ∧ q ≤ n ∧ k ≤ q ∧ SRow wr w.heap.size (.slice (some ⟨g, 0, none⟩) (k + 1) c) xs ∧ xs = wordsL (l.take q) ∧ Fr [] w wr) (fun _ s4 _ => n - (intOf s4).toNat)
  case atStart => exact ⟨_, 0, 0, [[]], _, _, rfl, rfl, rfl, rfl, by omega, by omega, HR0.out, rfl, HF0.out⟩
  case round =>
    obtain ⟨wr, q, k, xs, g, c, hwz, rfl, rfl, hm, hq, hkq, hR, hP, hF⟩ := hrel
    subst hwz
    have HR := Lib.hid hR
    have HP := Lib.hid hP
    have HF := Lib.hid hF
    have HM := Lib.hid hm
    clear hR hP hF hm
    by_cases hlt : q < n
    · have hlt' : (q : Int) < (n : Int) := by omega
      have hx := List.getElem?_eq_getElem (l := l) (i := q) (by rw [HN.out]; exact hlt)
      obtain ⟨b, hbe⟩ : ∃ c, l[q]'(by rw [HN.out]; exact hlt) = c := ⟨_, rfl⟩
      rw [hbe] at hx
      have hidx := fun W => idxStr l q b hx W
      have htk : l.take (q + 1) = l.take q ++ [b] := by rw [List.take_add_one, hx]; rfl
      have HTK := Lib.hid htk
      by_cases h32 : b = 32
      · subst h32
        have h32' : ((32 : UInt8).toNat : Int) = 32 := rfl
        rw [h32'] at hidx
        have fA : Fr [] wr (wr.alloc (.cells #[.string ⟨#[]⟩] 9)) := (Fr.refl [] wr).alloc _
        have hRA := HR.out.new fA
        unfold SRow at hRA
        rw [HM.out] at hRA
        have HRA := Lib.hid hRA
        have HFA := Lib.hid (HF.out.step fA)
        have HPN := Lib.hid (show xs ++ [[]] = wordsL (l.take (q + 1)) from by rw [HTK.out, wordsL_space, HP.out])
        have HB := Lib.hid (show w.heap.size ≤ (wr.alloc (.cells #[.string ⟨#[]⟩] 9)).heap.size from HFA.out.size)
        have hnew := one_new wr []
        clear hx hbe htk fA hRA
        go_wp2_with (first
          | (at_builtin; refine wpList_append_own _ rfl _ _ 34 rfl w.heap.size 9 i0 _ 1 16 Tryz.underlying34 hi hz0 hz1 hz2 rfl (by omega) (.slice (some ⟨g, 0, none⟩) (k + 1) c) (k + 1) _ rfl HRA.out ⟨wr.heap.size, 0, none⟩ 1 1 [.string (bs [])] rfl rfl hnew (by simp [Value.oneCell']) (by unfold maxLen; omega) (by omega) HB.out ?_; intro v' w1 hown hgrow hnil; have HOW := Lib.hid hown; have HGR := Lib.hid hgrow; clear hgrow hnil; obtain ⟨_, h0 | ⟨g', cap', cur', rfl, _⟩⟩ := hown; · exact absurd h0.2 (by omega))
          | fail)
        have HOB := Lib.hid (fun q e => rowBlkV HRA.out q e)
        have HF1 := Lib.hid (show Fr [] w w1 from HFA.out.trans (grownFrV (S := (Value.slice (some ⟨g, 0, none⟩) (k + 1) c).ownBlock.toList) HGR.out (fun z e => by have e' : (Value.slice (some ⟨g, 0, none⟩) (k + 1) c).ownBlock = some z := e; rw [e']; simp)) (fun x hx hl => by
          have := HOB.out x (by simpa using hx)
          omega))
        have HS1 := Lib.hid (SRow.more (xs := xs) (by rw [HM.out]; exact HOW.out))
        go_roundw
        case rel => exact ⟨_, q + 1, k + 1, xs ++ [[]], _, _, rfl, by go_num, rfl, by rw [List.length_append, HM.out]; rfl, by omega, by omega, HS1.out, HPN.out, HF1.out⟩
        case measure => simp [intOf]; omega
      · have n32 : ¬ (b.toNat : Int) = 32 := byte_ne b 32 (by omega) h32
        have g32 : decide ((b.toNat : Int) = 32) = false := decide_eq_false n32
        have idle : keepB b = false → _ := fun hk => Lib.hid (show xs = wordsL (l.take (q + 1)) from by rw [HTK.out, wordsL_idle _ _ hk, HP.out])
        by_cases h44 : b = 44
        · subst h44
          have HI := idle rfl
          have g44 : (((44 : UInt8).toNat : Int) != 44) = false := rfl
          have e44 : ((44 : UInt8).toNat : Int) = 44 := rfl
          rw [e44] at hidx n32 g32
          clear hx hbe htk idle g44 e44
          go_wp2
          go_roundw
          case rel => exact ⟨_, q + 1, k, xs, g, c, rfl, by go_num, rfl, HM.out, by omega, by omega, HR.out, HI.out, HF.out⟩
          case measure => simp [intOf]; omega
        · have n44 : ¬ (b.toNat : Int) = 44 := byte_ne b 44 (by omega) h44
          have g44 : ((b.toNat : Int) != 44) = true := by simpa using n44
          have k44 : decide ((b.toNat : Int) = 44) = false := decide_eq_false n44
          by_cases h58 : b = 58
          · subst h58
            have HI := idle rfl
            have e58 : ((58 : UInt8).toNat : Int) = 58 := rfl
            rw [e58] at hidx n32 g32 n44 g44 k44
            clear hx hbe htk idle e58
            go_wp2
            go_roundw
            case rel => exact ⟨_, q + 1, k, xs, g, c, rfl, by go_num, rfl, HM.out, by omega, by omega, HR.out, HI.out, HF.out⟩
            case measure => simp [intOf]; omega
          · have n58 : ¬ (b.toNat : Int) = 58 := byte_ne b 58 (by omega) h58
            have g58 : ((b.toNat : Int) != 58) = true := by simpa using n58
            have k58 : decide ((b.toNat : Int) = 58) = false := decide_eq_false n58
            by_cases h10 : b = 10
            · subst h10
              have HI := idle rfl
              have e10 : ((10 : UInt8).toNat : Int) = 10 := rfl
              rw [e10] at hidx n32 g32 n44 g44 k44 n58 g58 k58
              clear hx hbe htk idle e10
              go_wp2
              go_roundw
              case rel => exact ⟨_, q + 1, k, xs, g, c, rfl, by go_num, rfl, HM.out, by omega, by omega, HR.out, HI.out, HF.out⟩
              case measure => simp [intOf]; omega
            · have n10 : ¬ (b.toNat : Int) = 10 := byte_ne b 10 (by omega) h10
              have g10 : ((b.toNat : Int) != 10) = true := by simpa using n10
              have k10 : decide ((b.toNat : Int) = 10) = false := decide_eq_false n10
              have hkeep : keepB b = true := by unfold keepB; simp [h44, h58, h10]
              obtain ⟨y, hy⟩ : ∃ y, xs[k]? = some y := ⟨_, List.getElem?_eq_getElem (by rw [HM.out]; omega)⟩
              have hyl : y.length ≤ 100000 := by
                have h1 := wordsL_short (l.take q) y (by rw [← HP.out]; exact List.mem_of_getElem? hy)
                rw [List.length_take, HN.out] at h1
                omega
              have HPN := Lib.hid (show xs.set k (y ++ [b]) = wordsL (l.take (q + 1)) from by
                rw [HTK.out, wordsL_more _ _ h32 hkeep, ← HP.out]
                unfold lastMore
                rw [HM.out, Nat.add_sub_cancel, List.getD_eq_getElem?_getD, hy]
                rfl)
              have hcell := HR.out.cells rfl k y hy
              rw [Nat.zero_add] at hcell
              have hfz := HR.out.fz k
              have hsl := fun W => slStr l q (q + 1) (by omega) (by rw [HN.out]; omega) W
              have e1 : ((q + 1 : Nat) : Int) = (q : Int) + 1 := by omega
              have e2 : (l.take (q + 1)).drop q = [b] := by
                rw [HTK.out, List.drop_append_of_le_length (by rw [List.length_take, HN.out]; omega), List.drop_of_length_le (by rw [List.length_take]; omega)]
                rfl
              rw [e1, e2] at hsl
              have hadd := fun W => addStrO y [b] (by omega) (by simp) W
              have HS1 := Lib.hid (show SRow (wr.setCell ⟨g, k, none⟩ (.string (bs (y ++ [b])))) w.heap.size (.slice (some ⟨g, 0, none⟩) (k + 1) c) (xs.set k (y ++ [b])) from HR.out.put k (by rw [HM.out]; omega) _)
              have HF1 := Lib.hid (show Fr [] w (wr.setCell ⟨g, k, none⟩ (.string (bs (y ++ [b])))) from HF.out.setCell (fun h => by have := HR.out.low; simp only at h; omega) _)
              have z1 : (k : Int) + 1 - 1 = k := by omega
              clear hx hbe htk idle hy e1 e2
              go_upto_region 8 with fail
              go_region
              go_wp2
              go_roundw
              case rel => exact ⟨_, q + 1, k, _, g, c, rfl, by go_num, rfl, by rw [List.length_set]; exact HM.out, by omega, by omega, HS1.out, HPN.out, HF1.out.drewN 1⟩
              case measure => simp [intOf]; omega
    · have hqn : n = q := by omega
      subst hqn
      have HPN := Lib.hid (show xs = wordsL l from by rw [HP.out, List.take_of_length_le (by rw [HN.out]; exact Nat.le_refl _)])
      go_wp2
      go_ret
      exact ⟨_, rfl, by rw [← HPN.out]; exact HR.out, HF.out⟩
end Go.Proofs.YtllmejkcohfbiaaGreatDoor
namespace Go.Proofs.YtllmejkcohfbiaaGreatDoor
open Go.RowKit Go.Shelf Go.Sort Go.Lib
set_option linter.unusedVariables false
set_option linter.unusedSimpArgs false
set_option maxRecDepth 100000
set_option maxHeartbeats 16000000

/-- A list of words in a row. -/
def WRow (W : World) (g : Nat) (ws : List (List UInt8)) : Prop := ∀ (j : Nat) x, ws[j]? = some x → W.cell? ⟨g, j, none⟩ = some (.string (bs x))
theorem WRow.new {W W' : World} {g : Nat} {ws : List (List UInt8)} (h : WRow W g ws) (f : Fr [] W W') : WRow W' g ws := fun j x hj => f.keep (h j x hj) (by simp)
theorem SRow.words {W : World} {lo g n c : Nat} {ws : List (List UInt8)} (h : SRow W lo (.slice (some ⟨g, 0, none⟩) n c) ws) : WRow W g ws := fun j x hj => by
  have := h.cells rfl j x hj
  rwa [Nat.zero_add] at this
theorem dval_lt : ∀ (l : List UInt8), (∀ c ∈ l, isDig c) → dval l < 10 ^ l.length := by
  have : ∀ (l : List UInt8) (z k : Nat), (∀ c ∈ l, isDig c) → z < 10 ^ k → l.foldl dstep z < 10 ^ (k + l.length) := by
    intro l
    induction l with
    | nil => intro z k _ h; exact h
    | cons c r ih =>
      intro z k hd h
      have hc : isDig c := hd c (by simp)
      simp only [List.foldl_cons, List.length_cons]
      have h2 := ih (dstep z c) (k + 1) (fun x hx => hd x (List.mem_cons_of_mem _ hx)) (by
        unfold dstep
        unfold isDig at hc
        rw [Nat.pow_succ]
        omega)
      rw [show k + (r.length + 1) = k + 1 + r.length from by omega]
      exact h2
  intro l hd
  have := this l 0 0 hd (by decide)
  simpa [dval] using this
theorem dval_snoc (l : List UInt8) (c : UInt8) : dval (l ++ [c]) = dval l * 10 + (c.toNat - 48) := by
  unfold dval
  rw [List.foldl_append]
  rfl
theorem numX_bad {x : List UInt8} (h0 : x ≠ []) (h1 : tailW x ≠ []) (h : numB (tailW x) = false) : numX x = -1 := by
  unfold numX
  rw [if_neg h0, if_neg]
  rw [h, Bool.or_false]
  simpa using h1
theorem numX_good {x : List UInt8} (h0 : x ≠ []) (h : tailW x = [] ∨ numB (tailW x) = true) : numX x = if x.head? = some 45 then IntKind.i64.wrap (IntKind.u64.wrap (-(dval (tailW x) : Int))) else IntKind.i64.wrap (dval (tailW x) : Int) := by
  unfold numX
  rw [if_neg h0, if_pos]
  rw [Bool.or_eq_true]
  rcases h with h | h
  · exact .inl (decide_eq_true h)
  · exact .inr h
theorem numL_any (g n c : Nat) (ws : List (List UInt8)) (hn : ws.length = n) (i : Nat) (hi : i < 1000) (hnb : n ≤ 200000) (hw : ∀ x ∈ ws, x.length ≤ 100000) (w : World) (h : WRow w g ws) :
    Calls Tryz.prog 66 #[.slice (some ⟨g, 0, none⟩) n c, .int .i64 i] w fun e w' => e = .returned (.int .i64 (numL ws i)) ∧ w' = w := by
  have hi0 : (0 : Int) ≤ (i : Int) := by omega
  by_cases hlt : i < n
  · have hlt' : (i : Int) < (n : Int) := by omega
    have hge : ¬ (n : Int) ≤ (i : Int) := by omega
    have d1 : decide ((n : Int) ≤ (i : Int)) = false := decide_eq_false hge
    obtain ⟨x, hx⟩ : ∃ x, ws[i]? = some x := ⟨_, List.getElem?_eq_getElem (by omega)⟩
    have hxl := hw x (List.mem_of_getElem? hx)
    have c0 := h i x hx
    have HN := Lib.hid (show numL ws i = numX x from by unfold numL; rw [hx])
    clear h hw hn hx
    cases x with
    | nil =>
      have e0 : ((bs []).toList == (⟨#[]⟩ : ByteArray).toList) = true := (eqLists [] []).trans (decide_eq_true rfl)
      have e1 : bs [] = ⟨#[]⟩ := rfl
      rw [e1] at c0
      go_enter Tryz.func66, Tryz.ntmps66
      go_wp2
      go_ret
      exact ⟨by rw [HN.out]; rfl, rfl⟩
    | cons b r =>
      have hsz : (bs (b :: r)).size = r.length + 1 := by rw [bs_size]; rfl
      have e0 : ((bs (b :: r)).toList == (⟨#[]⟩ : ByteArray).toList) = false := (eqLists (b :: r) []).trans (decide_eq_false (by simp))
      have e2 : ∀ W, (binOp .eql 9 (.string (bs (b :: r))) (.string ⟨#[]⟩)).run Tryz.prog W = .ok (.bool false) W := fun W => (eqStr (b :: r) [] W).trans (by rw [decide_eq_false (by simp)])
      have e3 : ¬ (bs (b :: r)).toList = [] := by rw [bs_toList]; simp
      have e4 : ((bs (b :: r)).toList == []) = false := beq_eq_false_iff_ne.2 e3
      have hix : ∀ W, (Instr.index 9 (.string (bs (b :: r))) (.int .i64 0)).run Tryz.prog W = .ok (.int .u8 (b.toNat : Int)) W := fun W => idxStr (b :: r) 0 b rfl W
      by_cases hb : b = 45
      · subst hb
        have hb45 : ((45 : UInt8).toNat : Int) = 45 := rfl
        rw [hb45] at hix
        have hsl : ∀ W, (Instr.slice 9 (.string (bs (45 :: r))) (some (.int .i64 1)) none none).run Tryz.prog W = .ok (.string (bs r)) W := fun W => slStrL (45 :: r) 1 (by simp) W
        have hrz : (bs r).size = r.length := bs_size r
        have HXB := Lib.hid (show r ≠ [] → numB r = false → numX (45 :: r) = -1 from fun h1 h2 => numX_bad (by simp) (by simpa [tailW] using h1) (by simpa [tailW] using h2))
        have HXG := Lib.hid (show r = [] ∨ numB r = true → numX (45 :: r) = IntKind.i64.wrap (IntKind.u64.wrap (-(dval r : Int))) from fun h => by
          rw [numX_good (by simp) (by simpa [tailW] using h)]
          simp [tailW])
        obtain ⟨m, hm⟩ : ∃ m, r.length = m := ⟨_, rfl⟩
        have HML := Lib.hid hm
        simp only [List.length_cons] at hxl
        rw [hm] at hrz hxl hsz
        obtain ⟨X, hX⟩ : ∃ X, bs (45 :: r) = X := ⟨_, rfl⟩
        rw [hX] at hix hsl e0 e2 e3 e4 c0 hsz
        clear hm hX hb45
        go_enter Tryz.func66, Tryz.ntmps66
        go_wp2
        go_loopw [6, 7] (fun s6 s7 wr => ∃ (k : Nat), s7 = .int .i64 k ∧ s6 = .int .u64 (dval (r.take k) : Int) ∧ k ≤ m ∧ (∀ c ∈ r.take k, isDig c) ∧ (k = 0 ∨ m ≤ 19) ∧ w = wr) (fun _ s7 _ => m - (intOf s7).toNat)
        case atStart => exact ⟨0, rfl, rfl, by omega, (fun c hc => by simp at hc), .inl rfl, rfl⟩
        case round =>
          obtain ⟨k, rfl, rfl, hk, hd, hk19, rfl⟩ := hrel
          have HD := Lib.hid hd
          clear hd
          by_cases hlk : k < m
          · have hlk' : (k : Int) < (m : Int) := by omega
            have hxk := List.getElem?_eq_getElem (l := r) (i := k) (by rw [HML.out]; exact hlk)
            obtain ⟨y, hye⟩ : ∃ c, r[k]'(by rw [HML.out]; exact hlk) = c := ⟨_, rfl⟩
            rw [hye] at hxk
            have hidx := fun W => idxStr (r) k y hxk W
            have hne : (r) ≠ [] := fun e => by rw [e] at hxk; simp at hxk
            have HNE := Lib.hid hne
            have hmem : y ∈ (r) := List.mem_of_getElem? hxk
            have hbadD : ¬ isDig y → numB (r) = false := fun h => by
              unfold numB
              rw [Bool.and_eq_false_iff]
              left
              rw [List.all_eq_false]
              exact ⟨y, hmem, fun e => h (show 48 ≤ y.toNat ∧ y.toNat ≤ 57 from of_decide_eq_true e)⟩
            have htk : r.take (k + 1) = r.take k ++ [y] := by rw [List.take_add_one, hxk]; rfl
            have HTK := Lib.hid htk
            clear hye hne htk
            by_cases h48 : (y.toNat : Int) < 48
            · have HR := Lib.hid (HXB.out HNE.out (hbadD (fun h => by unfold isDig at h; omega)))
              have d48 : decide ((y.toNat : Int) < 48) = true := decide_eq_true h48
              clear hbadD hmem hxk
              go_wp2
              go_ret
              exact ⟨by rw [HN.out, HR.out] <;> first | rfl | (rw [IntWalk.i64_left] <;> rfl), rfl⟩
            · have d48 : decide ((y.toNat : Int) < 48) = false := decide_eq_false h48
              by_cases h57 : (57 : Int) < (y.toNat : Int)
              · have HR := Lib.hid (HXB.out HNE.out (hbadD (fun h => by unfold isDig at h; omega)))
                have d57 : decide ((57 : Int) < (y.toNat : Int)) = true := decide_eq_true h57
                clear hbadD hmem hxk
                go_wp2
                go_ret
                exact ⟨by rw [HN.out, HR.out] <;> first | rfl | (rw [IntWalk.i64_left] <;> rfl), rfl⟩
              · have d57 : decide ((57 : Int) < (y.toNat : Int)) = false := decide_eq_false h57
                by_cases h19 : (19 : Int) < (m : Int)
                · have HR := Lib.hid (HXB.out HNE.out (by unfold numB; rw [Bool.and_eq_false_iff]; right; rw [HML.out]; exact decide_eq_false (by omega)))
                  have d19 : decide ((19 : Int) < (m : Int)) = true := decide_eq_true h19
                  clear hbadD hmem hxk
                  go_wp2
                  go_ret
                  exact ⟨by rw [HN.out, HR.out] <;> first | rfl | (rw [IntWalk.i64_left] <;> rfl), rfl⟩
                · have d19 : decide ((19 : Int) < (m : Int)) = false := decide_eq_false h19
                  have hdy : isDig y := by unfold isDig; omega
                  have hlt10 : dval (r.take k) < 1000000000000000000 := by
                    have h1 := dval_lt (r.take k) HD.out
                    have h2 : (r.take k).length = k := by rw [List.length_take, HML.out]; omega
                    rw [h2] at h1
                    have h3 : (10 : Nat) ^ k ≤ 10 ^ 18 := Nat.pow_le_pow_right (by decide) (by omega)
                    have h4 : (10 : Nat) ^ 18 = 1000000000000000000 := by decide
                    omega
                  have HDS := Lib.hid (show dval (r.take (k + 1)) = dval (r.take k) * 10 + (y.toNat - 48) from by rw [HTK.out]; exact dval_snoc _ _)
                  have HDN := Lib.hid (show ∀ c ∈ r.take (k + 1), isDig c from fun c hc => by
                    rw [HTK.out] at hc
                    rcases List.mem_append.1 hc with hc | hc
                    · exact HD.out c hc
                    · rw [List.mem_singleton] at hc
                      rw [hc]
                      exact hdy)
                  obtain ⟨z, hz⟩ : ∃ z, dval (r.take k) = z := ⟨_, rfl⟩
                  rw [hz] at hlt10 HDS ⊢
                  have hz18 : (z : Int) < 1000000000000000000 := by omega
                  clear hbadD hmem hxk hz hdy
                  go_wp2
                  go_roundw
                  case rel => exact ⟨k + 1, by go_num, by rw [HDS.out]; congr 1; omega, by omega, HDN.out, .inr (by omega), by first | trivial | rfl⟩
                  case measure => simp [intOf]; omega
          · have hkm : m = k := by omega
            subst hkm
            have hfull : r.take m = (r) := List.take_of_length_le (by rw [HML.out]; exact Nat.le_refl _)
            rw [hfull] at HD ⊢
            have hgood : (r) = [] ∨ numB (r) = true := by
              rcases hk19 with h | h
              · exact .inl (List.eq_nil_of_length_eq_zero (by rw [HML.out]; exact h))
              · right
                unfold numB
                rw [Bool.and_eq_true]
                refine ⟨?_, by rw [HML.out]; exact decide_eq_true h⟩
                rw [List.all_eq_true]
                exact fun c hc => decide_eq_true (HD.out c hc)
            have HR := Lib.hid (HXG.out hgood)
            obtain ⟨z, hz⟩ : ∃ z, dval (r) = z := ⟨_, rfl⟩
            rw [hz] at HR ⊢
            clear hfull hgood hz hk19
            go_wp2
            go_ret
            exact ⟨by rw [HN.out, HR.out] <;> first | rfl | (rw [IntWalk.i64_left] <;> rfl), rfl⟩
      · have hbn : ¬ (b.toNat : Int) = 45 := byte_ne b 45 (by omega) hb
        have db : decide ((b.toNat : Int) = 45) = false := decide_eq_false hbn
        have hhd : ¬ (b :: r).head? = some 45 := by simpa using hb
        have htl : tailW (b :: r) = b :: r := by unfold tailW; rw [if_neg hhd]
        have HXB := Lib.hid (show (b :: r) ≠ [] → numB (b :: r) = false → numX (b :: r) = -1 from fun h1 h2 => numX_bad h1 (by rw [htl]; exact h1) (by rw [htl]; exact h2))
        have HXG := Lib.hid (show (b :: r) = [] ∨ numB (b :: r) = true → numX (b :: r) = IntKind.i64.wrap (dval (b :: r) : Int) from fun h => by
          rw [numX_good (by simp) (by rw [htl]; exact h), if_neg hhd, htl])
        obtain ⟨S, hS⟩ : ∃ S, b :: r = S := ⟨_, rfl⟩
        obtain ⟨m, hm⟩ : ∃ m, S.length = m := ⟨_, rfl⟩
        have HML := Lib.hid hm
        have hsz2 : (bs S).size = m := by rw [bs_size, hm]
        rw [hS] at hix e0 e2 e3 e4 c0 HXB HXG hxl HN
        rw [hm] at hxl
        clear hm hS hsz hhd htl hb
        go_enter Tryz.func66, Tryz.ntmps66
        go_wp2
        go_loopw [6, 7] (fun s6 s7 wr => ∃ (k : Nat), s7 = .int .i64 k ∧ s6 = .int .u64 (dval (S.take k) : Int) ∧ k ≤ m ∧ (∀ c ∈ (S).take k, isDig c) ∧ (k = 0 ∨ m ≤ 19) ∧ w = wr) (fun _ s7 _ => m - (intOf s7).toNat)
        case atStart => exact ⟨0, rfl, rfl, by omega, (fun c hc => by simp at hc), .inl rfl, rfl⟩
        case round =>
          obtain ⟨k, rfl, rfl, hk, hd, hk19, rfl⟩ := hrel
          have HD := Lib.hid hd
          clear hd
          by_cases hlk : k < m
          · have hlk' : (k : Int) < (m : Int) := by omega
            have hxk := List.getElem?_eq_getElem (l := S) (i := k) (by rw [HML.out]; exact hlk)
            obtain ⟨y, hye⟩ : ∃ c, S[k]'(by rw [HML.out]; exact hlk) = c := ⟨_, rfl⟩
            rw [hye] at hxk
            have hidx := fun W => idxStr (S) k y hxk W
            have hne : (S) ≠ [] := fun e => by rw [e] at hxk; simp at hxk
            have HNE := Lib.hid hne
            have hmem : y ∈ (S) := List.mem_of_getElem? hxk
            have hbadD : ¬ isDig y → numB (S) = false := fun h => by
              unfold numB
              rw [Bool.and_eq_false_iff]
              left
              rw [List.all_eq_false]
              exact ⟨y, hmem, fun e => h (show 48 ≤ y.toNat ∧ y.toNat ≤ 57 from of_decide_eq_true e)⟩
            have htk : S.take (k + 1) = S.take k ++ [y] := by rw [List.take_add_one, hxk]; rfl
            have HTK := Lib.hid htk
            clear hye hne htk
            by_cases h48 : (y.toNat : Int) < 48
            · have HR := Lib.hid (HXB.out HNE.out (hbadD (fun h => by unfold isDig at h; omega)))
              have d48 : decide ((y.toNat : Int) < 48) = true := decide_eq_true h48
              clear hbadD hmem hxk
              go_wp2
              go_ret
              exact ⟨by rw [HN.out, HR.out] <;> first | rfl | (rw [IntWalk.i64_left] <;> rfl), rfl⟩
            · have d48 : decide ((y.toNat : Int) < 48) = false := decide_eq_false h48
              by_cases h57 : (57 : Int) < (y.toNat : Int)
              · have HR := Lib.hid (HXB.out HNE.out (hbadD (fun h => by unfold isDig at h; omega)))
                have d57 : decide ((57 : Int) < (y.toNat : Int)) = true := decide_eq_true h57
                clear hbadD hmem hxk
                go_wp2
                go_ret
                exact ⟨by rw [HN.out, HR.out] <;> first | rfl | (rw [IntWalk.i64_left] <;> rfl), rfl⟩
              · have d57 : decide ((57 : Int) < (y.toNat : Int)) = false := decide_eq_false h57
                by_cases h19 : (19 : Int) < (m : Int)
                · have HR := Lib.hid (HXB.out HNE.out (by unfold numB; rw [Bool.and_eq_false_iff]; right; rw [HML.out]; exact decide_eq_false (by omega)))
                  have d19 : decide ((19 : Int) < (m : Int)) = true := decide_eq_true h19
                  clear hbadD hmem hxk
                  go_wp2
                  go_ret
                  exact ⟨by rw [HN.out, HR.out] <;> first | rfl | (rw [IntWalk.i64_left] <;> rfl), rfl⟩
                · have d19 : decide ((19 : Int) < (m : Int)) = false := decide_eq_false h19
                  have hdy : isDig y := by unfold isDig; omega
                  have hlt10 : dval (S.take k) < 1000000000000000000 := by
                    have h1 := dval_lt (S.take k) HD.out
                    have h2 : (S.take k).length = k := by rw [List.length_take, HML.out]; omega
                    rw [h2] at h1
                    have h3 : (10 : Nat) ^ k ≤ 10 ^ 18 := Nat.pow_le_pow_right (by decide) (by omega)
                    have h4 : (10 : Nat) ^ 18 = 1000000000000000000 := by decide
                    omega
                  have HDS := Lib.hid (show dval (S.take (k + 1)) = dval (S.take k) * 10 + (y.toNat - 48) from by rw [HTK.out]; exact dval_snoc _ _)
                  have HDN := Lib.hid (show ∀ c ∈ (S).take (k + 1), isDig c from fun c hc => by
                    rw [HTK.out] at hc
                    rcases List.mem_append.1 hc with hc | hc
                    · exact HD.out c hc
                    · rw [List.mem_singleton] at hc
                      rw [hc]
                      exact hdy)
                  obtain ⟨z, hz⟩ : ∃ z, dval (S.take k) = z := ⟨_, rfl⟩
                  rw [hz] at hlt10 HDS ⊢
                  have hz18 : (z : Int) < 1000000000000000000 := by omega
                  clear hbadD hmem hxk hz hdy
                  go_wp2
                  go_roundw
                  case rel => exact ⟨k + 1, by go_num, by rw [HDS.out]; congr 1; omega, by omega, HDN.out, .inr (by omega), by first | trivial | rfl⟩
                  case measure => simp [intOf]; omega
          · have hkm : m = k := by omega
            subst hkm
            have hfull : S.take m = (S) := List.take_of_length_le (by rw [HML.out]; exact Nat.le_refl _)
            rw [hfull] at HD ⊢
            have hgood : (S) = [] ∨ numB (S) = true := by
              rcases hk19 with h | h
              · exact .inl (List.eq_nil_of_length_eq_zero (by rw [HML.out]; exact h))
              · right
                unfold numB
                rw [Bool.and_eq_true]
                refine ⟨?_, by rw [HML.out]; exact decide_eq_true h⟩
                rw [List.all_eq_true]
                exact fun c hc => decide_eq_true (HD.out c hc)
            have HR := Lib.hid (HXG.out hgood)
            obtain ⟨z, hz⟩ : ∃ z, dval (S) = z := ⟨_, rfl⟩
            rw [hz] at HR ⊢
            clear hfull hgood hz hk19
            go_wp2
            go_ret
            exact ⟨by rw [HN.out, HR.out] <;> first | rfl | (rw [IntWalk.i64_left] <;> rfl), rfl⟩
  · have hge : (n : Int) ≤ (i : Int) := by omega
    have d1 : decide ((n : Int) ≤ (i : Int)) = true := decide_eq_true hge
    have HN := Lib.hid (show numL ws i = -1 from by unfold numL; rw [List.getElem?_eq_none (by omega)])
    clear h hw hn
    go_enter Tryz.func66, Tryz.ntmps66
    go_wp2
    go_ret
    exact ⟨by rw [HN.out] <;> rfl, rfl⟩
theorem idxL_any (K n0 : Nat) (tbl : List (List UInt8)) (hn0 : tbl.length = n0) (h0 : n0 ≤ 1000) (g n c : Nat) (ws : List (List UInt8)) (hn : ws.length = n) (i : Nat) (hi : i < 1000) (hnb : n ≤ 200000) (w : World) (hK : WRow w K tbl) (h : WRow w g ws) :
    Calls Tryz.prog 67 #[.slice (some ⟨K, 0, none⟩) n0 n0, .slice (some ⟨g, 0, none⟩) n c, .int .i64 i] w fun e w' => e = .returned (.int .i64 (idxL tbl ws i)) ∧ Fr [] w w' := by
  have hi0 : (0 : Int) ≤ (i : Int) := by omega
  have HK := Lib.hid hK
  have HT := Lib.hid hn0
  by_cases hlt : i < n
  · have hlt' : (i : Int) < (n : Int) := by omega
    have d1 : decide ((i : Int) < (n : Int)) = true := decide_eq_true hlt'
    obtain ⟨x, hx⟩ : ∃ x, ws[i]? = some x := ⟨_, List.getElem?_eq_getElem (by omega)⟩
    have HC := Lib.hid (h i x hx)
    have HN := Lib.hid (show idxL tbl ws i = idxG x 0 tbl from by unfold idxL; rw [hx])
    clear h hn hx hK hn0
    go_enter Tryz.func67, Tryz.ntmps67
    go_wp2
    go_loopw [7] (fun s7 wr => ∃ (wz : World) (q : Nat), wz = wr ∧ s7 = .int .i64 q ∧ q ≤ n0 ∧ idxG x 0 tbl = idxG x q (tbl.drop q) ∧ Fr [] w wr) (fun s7 _ => n0 - (intOf s7).toNat)
    case atStart => exact ⟨_, 0, rfl, rfl, by omega, rfl, Fr.refl _ _⟩
    case round =>
      obtain ⟨wr, q, hwz, rfl, hq, hI, hF⟩ := hrel
      subst hwz
      have HI := Lib.hid hI
      have HF := Lib.hid hF
      clear hI hF
      by_cases hql : q < n0
      · have hql' : (q : Int) < (n0 : Int) := by omega
        have dq : decide ((q : Int) < (n0 : Int)) = true := decide_eq_true hql'
        have hy := List.getElem?_eq_getElem (l := tbl) (i := q) (by rw [HT.out]; exact hql)
        obtain ⟨y, hye⟩ : ∃ y, tbl[q]'(by rw [HT.out]; exact hql) = y := ⟨_, rfl⟩
        rw [hye] at hy
        have c0 := HF.out.keep (HK.out q y hy) (by simp)
        have c1 := HF.out.keep HC.out (by simp)
        have hd : idxG x q (tbl.drop q) = if y = x then (q : Int) else idxG x (q + 1) (tbl.drop (q + 1)) := by
          rw [List.drop_eq_getElem_cons (by rw [HT.out]; exact hql), hye]
          rfl
        have heq := fun W => eqStr y x W
        have hel := eqLists y x
        by_cases hyx : y = x
        · rw [decide_eq_true hyx] at hel heq
          rw [if_pos hyx] at hd
          have HR := Lib.hid (show idxL tbl ws i = (q : Int) from by rw [HN.out, HI.out, hd])
          obtain ⟨Y, hY⟩ : ∃ Y, bs y = Y := ⟨_, rfl⟩
          obtain ⟨X, hX⟩ : ∃ X, bs x = X := ⟨_, rfl⟩
          rw [hY, hX] at hel
          simp only [hY, hX] at heq
          rw [hY] at c0
          rw [hX] at c1
          clear hy hye hd hyx hY hX
          go_upto_region 4 with fail
          go_quiet (fail)
          go_wp2
          go_ret
          exact ⟨by rw [HR.out] <;> rfl, HF.out.drewN _⟩
        · rw [decide_eq_false hyx] at hel heq
          rw [if_neg hyx] at hd
          have HR := Lib.hid (show idxG x 0 tbl = idxG x (q + 1) (tbl.drop (q + 1)) from by rw [HI.out, hd])
          obtain ⟨Y, hY⟩ : ∃ Y, bs y = Y := ⟨_, rfl⟩
          obtain ⟨X, hX⟩ : ∃ X, bs x = X := ⟨_, rfl⟩
          rw [hY, hX] at hel
          simp only [hY, hX] at heq
          rw [hY] at c0
          rw [hX] at c1
          clear hy hye hd hyx hY hX
          go_upto_region 4 with fail
          go_quiet (fail)
          go_wp2
          go_roundw
          case rel => exact ⟨_, q + 1, rfl, by go_num, by omega, HR.out, HF.out.drewN _⟩
          case measure => simp [intOf]; omega
      · have hqn : ¬ (q : Int) < (n0 : Int) := by omega
        have dq : decide ((q : Int) < (n0 : Int)) = false := decide_eq_false hqn
        have HR := Lib.hid (show idxL tbl ws i = -1 from by rw [HN.out, HI.out, List.drop_of_length_le (by rw [HT.out]; omega)]; rfl)
        go_wp2
        go_ret
        exact ⟨by rw [HR.out] <;> rfl, HF.out⟩
  · have hge : ¬ (i : Int) < (n : Int) := by omega
    have d1 : decide ((i : Int) < (n : Int)) = false := decide_eq_false hge
    have HN := Lib.hid (show idxL tbl ws i = -1 from by unfold idxL; rw [List.getElem?_eq_none (by omega)])
    clear h hn hK hn0
    by_cases hz : n0 = 0
    · subst hz
      go_enter Tryz.func67, Tryz.ntmps67
      go_wp2
      refine wp_loop_rounds 1 ?_
      rw [rounds_succ]
      go_wp2
      go_ret
      exact ⟨by rw [HN.out] <;> rfl, Fr.refl _ _⟩
    · have hz' : (0 : Int) < (n0 : Int) := by omega
      go_enter Tryz.func67, Tryz.ntmps67
      go_wp2
      refine wp_loop_rounds 1 ?_
      rw [rounds_succ]
      go_wp2
      go_ret
      exact ⟨by rw [HN.out] <;> rfl, Fr.refl _ _⟩
end Go.Proofs.YtllmejkcohfbiaaGreatDoor
namespace Go.Proofs.YtllmejkcohfbiaaGreatDoor
open Go.RowKit Go.Shelf Go.Sort Go.Lib
set_option linter.unusedVariables false
set_option linter.unusedSimpArgs false
set_option maxRecDepth 100000
set_option maxHeartbeats 16000000

theorem WordsBlk.wrow {W : World} {K : Nat} {ws : List (List UInt8)} (h : WordsBlk W K ws) : WRow W K ws := fun j x hj => by
  obtain ⟨hl, rfl⟩ := List.getElem?_eq_some_iff.1 hj
  rw [h.cell hl]
  simp [hl]
def tkF (l : List UInt8) : Bool := decide ((tkL l).ok = true ∧ taskB (tkL l) = l)
def cdF (l : List UInt8) : Bool := decide ((cdL l).ok = true ∧ cdB (cdL l) = l)
def bkF (l : List UInt8) : Bool := decide ((bkLw l).ok = true ∧ bkB (bkLw l) = l)
theorem readTaskL_any (l : List UInt8) (hl : l.length ≤ 100000) (w : World) :
    Calls Tryz.prog 29 #[.string (bs l)] w fun e w' => e = .returned (.tuple #[tkV (tkL l), .bool (tkF l)]) ∧ Fr [] w w' := by
  have HLL := Lib.hid hl
  obtain ⟨wA, hwA⟩ : ∃ z, w.alloc (.cells #[.int .i64 0, .int .i64 0, .int .i64 0, .int .i64 0, .int .i64 0, .int .i64 0, .int .i64 0, .int .i64 0] 58) = z := ⟨_, rfl⟩
  have HR0 := Lib.hid (show TkAt wA w.heap.size ⟨0, 0, 0, 0, 0, 0, 0, 0⟩ from by rw [← hwA]; exact TkAt.made w ⟨0, 0, 0, 0, 0, 0, 0, 0⟩)
  have HFA := Lib.hid (show Fr [] w wA from by rw [← hwA]; exact (Fr.refl [] w).alloc _)
  have HZA := Lib.hid (show wA.heap.size = w.heap.size + 1 from by rw [← hwA]; simp)
  have HWO := Lib.hid (wordsL_any l hl wA)
  have HWL := Lib.hid (wordsL_len l)
  have HWH := Lib.hid (wordsL_short l)
  have HNE := Lib.hid (wordsL_ne l)
  obtain ⟨ws, hws⟩ : ∃ ws, wordsL l = ws := ⟨_, rfl⟩
  have HQ := Lib.hid hws
  rw [hws] at HWO HWL HWH HNE
  obtain ⟨n, hn⟩ : ∃ n, ws.length = n := ⟨_, rfl⟩
  have HN := Lib.hid hn
  have HWS := Lib.hid (show ∀ x ∈ ws, x.length ≤ 100000 from fun x hx => by have := HWH.out x hx; have := HLL.out; omega)
  clear hl hws hn HWH
  go_enter Tryz.func29, Tryz.ntmps29
  go_wp2_with fail
  clear hwA
  refine HWO.out.mono ?_
  rintro e w1 ⟨v1, rfl, hsr, f1⟩
  have hne : 0 < ws.length := List.length_pos_iff.2 HNE.out
  obtain ⟨g, c, rfl, _⟩ := hsr.at hne
  rw [HN.out] at hsr ⊢
  have HW1 := Lib.hid hsr.words
  have R1 := Lib.hid (HR0.out.keep f1 (by simp))
  have F1 := Lib.hid (HFA.out.step f1)
  rw [HN.out] at HWL
  clear hsr f1 hne HWO HFA
  have N1 := Lib.hid (show Calls Tryz.prog 66 #[.slice (some ⟨g, 0, none⟩) n c, .int .i64 1] w1 fun e w' => e = .returned (.int .i64 (numL ws 1)) ∧ w' = w1 from numL_any g n c ws HN.out 1 (by omega) (by have := HWL.out; have := HLL.out; omega) HWS.out w1 HW1.out)
  have N3 := Lib.hid (show Calls Tryz.prog 66 #[.slice (some ⟨g, 0, none⟩) n c, .int .i64 3] w1 fun e w' => e = .returned (.int .i64 (numL ws 3)) ∧ w' = w1 from numL_any g n c ws HN.out 3 (by omega) (by have := HWL.out; have := HLL.out; omega) HWS.out w1 HW1.out)
  have N5 := Lib.hid (show Calls Tryz.prog 66 #[.slice (some ⟨g, 0, none⟩) n c, .int .i64 5] w1 fun e w' => e = .returned (.int .i64 (numL ws 5)) ∧ w' = w1 from numL_any g n c ws HN.out 5 (by omega) (by have := HWL.out; have := HLL.out; omega) HWS.out w1 HW1.out)
  have N7 := Lib.hid (show Calls Tryz.prog 66 #[.slice (some ⟨g, 0, none⟩) n c, .int .i64 7] w1 fun e w' => e = .returned (.int .i64 (numL ws 7)) ∧ w' = w1 from numL_any g n c ws HN.out 7 (by omega) (by have := HWL.out; have := HLL.out; omega) HWS.out w1 HW1.out)
  have N9 := Lib.hid (show Calls Tryz.prog 66 #[.slice (some ⟨g, 0, none⟩) n c, .int .i64 9] w1 fun e w' => e = .returned (.int .i64 (numL ws 9)) ∧ w' = w1 from numL_any g n c ws HN.out 9 (by omega) (by have := HWL.out; have := HLL.out; omega) HWS.out w1 HW1.out)
  have N11 := Lib.hid (show Calls Tryz.prog 66 #[.slice (some ⟨g, 0, none⟩) n c, .int .i64 11] w1 fun e w' => e = .returned (.int .i64 (numL ws 11)) ∧ w' = w1 from numL_any g n c ws HN.out 11 (by omega) (by have := HWL.out; have := HLL.out; omega) HWS.out w1 HW1.out)
  have N13 := Lib.hid (show Calls Tryz.prog 66 #[.slice (some ⟨g, 0, none⟩) n c, .int .i64 13] w1 fun e w' => e = .returned (.int .i64 (numL ws 13)) ∧ w' = w1 from numL_any g n c ws HN.out 13 (by omega) (by have := HWL.out; have := HLL.out; omega) HWS.out w1 HW1.out)
  have N15 := Lib.hid (show Calls Tryz.prog 66 #[.slice (some ⟨g, 0, none⟩) n c, .int .i64 15] w1 fun e w' => e = .returned (.int .i64 (numL ws 15)) ∧ w' = w1 from numL_any g n c ws HN.out 15 (by omega) (by have := HWL.out; have := HLL.out; omega) HWS.out w1 HW1.out)
  obtain ⟨a0, ha0⟩ : ∃ a, numL ws 1 = a := ⟨_, rfl⟩
  rw [ha0] at N1
  obtain ⟨a1, ha1⟩ : ∃ a, numL ws 3 = a := ⟨_, rfl⟩
  rw [ha1] at N3
  obtain ⟨a2, ha2⟩ : ∃ a, numL ws 5 = a := ⟨_, rfl⟩
  rw [ha2] at N5
  obtain ⟨a3, ha3⟩ : ∃ a, numL ws 7 = a := ⟨_, rfl⟩
  rw [ha3] at N7
  obtain ⟨a4, ha4⟩ : ∃ a, numL ws 9 = a := ⟨_, rfl⟩
  rw [ha4] at N9
  obtain ⟨a5, ha5⟩ : ∃ a, numL ws 11 = a := ⟨_, rfl⟩
  rw [ha5] at N11
  obtain ⟨a6, ha6⟩ : ∃ a, numL ws 13 = a := ⟨_, rfl⟩
  rw [ha6] at N13
  obtain ⟨a7, ha7⟩ : ∃ a, numL ws 15 = a := ⟨_, rfl⟩
  rw [ha7] at N15
  have HX := Lib.hid (show tkL l = ⟨a0, a1, a2, a3, a4, a5, a6, a7⟩ from by unfold tkL; rw [HQ.out, ha0, ha1, ha2, ha3, ha4, ha5, ha6, ha7])
  have HWF := Lib.hid (show (⟨a0, a1, a2, a3, a4, a5, a6, a7⟩ : Tk).wf from by rw [← HX.out]; exact tkL_wf _)
  clear ha0 ha1 ha2 ha3 ha4 ha5 ha6 ha7
  go_wp2_with fail
  refine N1.out.mono ?_
  rintro e w' ⟨rfl, hw'⟩
  subst hw'
  go_wp2_with fail
  refine N3.out.mono ?_
  rintro e w' ⟨rfl, hw'⟩
  subst hw'
  go_wp2_with fail
  refine N5.out.mono ?_
  rintro e w' ⟨rfl, hw'⟩
  subst hw'
  go_wp2_with fail
  refine N7.out.mono ?_
  rintro e w' ⟨rfl, hw'⟩
  subst hw'
  go_wp2_with fail
  refine N9.out.mono ?_
  rintro e w' ⟨rfl, hw'⟩
  subst hw'
  go_wp2_with fail
  refine N11.out.mono ?_
  rintro e w' ⟨rfl, hw'⟩
  subst hw'
  go_wp2_with fail
  refine N13.out.mono ?_
  rintro e w' ⟨rfl, hw'⟩
  subst hw'
  go_wp2_with fail
  refine N15.out.mono ?_
  rintro e w' ⟨rfl, hw'⟩
  subst hw'
  clear N1 N3 N5 N7 N9 N11 N13 N15
  obtain ⟨w2, hw2⟩ : ∃ z, w'.alloc (.cells #[.int .i64 a0, .int .i64 a1, .int .i64 a2, .int .i64 a3, .int .i64 a4, .int .i64 a5, .int .i64 a6, .int .i64 a7] 58) = z := ⟨_, rfl⟩
  have X2 := Lib.hid (show TkAt w2 w'.heap.size ⟨a0, a1, a2, a3, a4, a5, a6, a7⟩ from by rw [← hw2]; exact TkAt.made w' ⟨a0, a1, a2, a3, a4, a5, a6, a7⟩)
  have f2 : Fr [] w' w2 := by rw [← hw2]; exact (Fr.refl [] w').alloc _
  have R2 := Lib.hid (R1.out.keep f2 (by simp))
  have F2 := Lib.hid (F1.out.step f2)
  have HRE := Lib.hid (show w.heap.size < w'.heap.size from R1.out.lt)
  have hline := taskLineL_any ⟨a0, a1, a2, a3, a4, a5, a6, a7⟩ HWF.out w2
  simp only at hline
  have HLI := Lib.hid hline
  have x0 := X2.out.c0
  have x1 := X2.out.c1
  have x2 := X2.out.c2
  have x3 := X2.out.c3
  have x4 := X2.out.c4
  have x5 := X2.out.c5
  have x6 := X2.out.c6
  have x7 := X2.out.c7
  simp only at x0 x1 x2 x3 x4 x5 x6 x7
  clear f2 hline
  go_upto_region 3 with fail
  try rw [hw2]
  obtain ⟨E, hE⟩ : ∃ E, w'.heap.size = E := ⟨_, rfl⟩
  rw [hE] at X2 HRE x0 x1 x2 x3 x4 x5 x6 x7
  simp only [hE]
  clear hw2 hE
  go_wp2_with fail
  refine HLI.out.mono ?_
  rintro e w3 ⟨rfl, f3⟩
  have X3 := Lib.hid (X2.out.keep f3 (by simp))
  have R3 := Lib.hid (R2.out.keep f3 (by simp))
  have F3 := Lib.hid (F2.out.step f3)
  clear x0 x1 x2 x3 x4 x5 x6 x7 f3 HLI
  have x0 := X3.out.c0
  have x1 := X3.out.c1
  have x2 := X3.out.c2
  have x3 := X3.out.c3
  have x4 := X3.out.c4
  have x5 := X3.out.c5
  have x6 := X3.out.c6
  have x7 := X3.out.c7
  have r0 := R3.out.c0
  have r1 := R3.out.c1
  have r2 := R3.out.c2
  have r3 := R3.out.c3
  have r4 := R3.out.c4
  have r5 := R3.out.c5
  have r6 := R3.out.c6
  have r7 := R3.out.c7
  have rz := R3.out.fz
  have hne : w.heap.size ≠ E := by have := HRE.out; omega
  simp only at x0 x1 x2 x3 x4 x5 x6 x7 r0 r1 r2 r3 r4 r5 r6 r7
  have hfl : tkF l = ((⟨a0, a1, a2, a3, a4, a5, a6, a7⟩ : Tk).ok && decide (taskB ⟨a0, a1, a2, a3, a4, a5, a6, a7⟩ = l)) := by
    unfold tkF
    rw [HX.out]
    cases (⟨a0, a1, a2, a3, a4, a5, a6, a7⟩ : Tk).ok <;> simp
  have hel := eqLists (taskB ⟨a0, a1, a2, a3, a4, a5, a6, a7⟩) l
  obtain ⟨ok, hok⟩ : ∃ b, (⟨a0, a1, a2, a3, a4, a5, a6, a7⟩ : Tk).ok = b := ⟨_, rfl⟩
  obtain ⟨ed, hed⟩ : ∃ b, decide (taskB ⟨a0, a1, a2, a3, a4, a5, a6, a7⟩ = l) = b := ⟨_, rfl⟩
  obtain ⟨Y, hY⟩ : ∃ Y, bs (taskB ⟨a0, a1, a2, a3, a4, a5, a6, a7⟩) = Y := ⟨_, rfl⟩
  obtain ⟨Z, hZ⟩ : ∃ Z, bs l = Z := ⟨_, rfl⟩
  rw [hok, hed] at hfl
  rw [hed, hY, hZ] at hel
  rw [hok, hY]
  simp only [hZ]
  have HFL := Lib.hid hfl
  have q1 := R3.out.setAll ⟨a0, a1, a2, a3, a4, a5, a6, a7⟩
  have HQ1 := Lib.hid q1
  clear hok hed hY hZ hfl q1
  cases ok with
  | false =>
    go_wp2
    have n0 := HQ1.out.c0
    have n1 := HQ1.out.c1
    have n2 := HQ1.out.c2
    have n3 := HQ1.out.c3
    have n4 := HQ1.out.c4
    have n5 := HQ1.out.c5
    have n6 := HQ1.out.c6
    have n7 := HQ1.out.c7
    simp only at n0 n1 n2 n3 n4 n5 n6 n7
    clear r0 r1 r2 r3 r4 r5 r6 r7 x0 x1 x2 x3 x4 x5 x6 x7
    refine bodyPost_ret (v := .tuple #[tkV ⟨a0, a1, a2, a3, a4, a5, a6, a7⟩, .bool false]) (by simp [tkV, results, Tryz.results29, go_sem, n0, n1, n2, n3, n4, n5, n6, n7]) rfl ?_
    refine ⟨by rw [HX.out, HFL.out]; rfl, ?_⟩
    exact (((((((F3.out.setCell (fun h => absurd h (Nat.lt_irrefl _)) _).setCell (fun h => absurd h (Nat.lt_irrefl _)) _).setCell (fun h => absurd h (Nat.lt_irrefl _)) _).setCell (fun h => absurd h (Nat.lt_irrefl _)) _).setCell (fun h => absurd h (Nat.lt_irrefl _)) _).setCell (fun h => absurd h (Nat.lt_irrefl _)) _).setCell (fun h => absurd h (Nat.lt_irrefl _)) _).setCell (fun h => absurd h (Nat.lt_irrefl _)) _
  | true =>
    go_wp2
    have n0 := HQ1.out.c0
    have n1 := HQ1.out.c1
    have n2 := HQ1.out.c2
    have n3 := HQ1.out.c3
    have n4 := HQ1.out.c4
    have n5 := HQ1.out.c5
    have n6 := HQ1.out.c6
    have n7 := HQ1.out.c7
    simp only at n0 n1 n2 n3 n4 n5 n6 n7
    clear r0 r1 r2 r3 r4 r5 r6 r7 x0 x1 x2 x3 x4 x5 x6 x7
    refine bodyPost_ret (v := .tuple #[tkV ⟨a0, a1, a2, a3, a4, a5, a6, a7⟩, .bool ed]) (by simp [tkV, results, Tryz.results29, go_sem, n0, n1, n2, n3, n4, n5, n6, n7]) rfl ?_
    refine ⟨by rw [HX.out, HFL.out]; rfl, ?_⟩
    exact (((((((F3.out.setCell (fun h => absurd h (Nat.lt_irrefl _)) _).setCell (fun h => absurd h (Nat.lt_irrefl _)) _).setCell (fun h => absurd h (Nat.lt_irrefl _)) _).setCell (fun h => absurd h (Nat.lt_irrefl _)) _).setCell (fun h => absurd h (Nat.lt_irrefl _)) _).setCell (fun h => absurd h (Nat.lt_irrefl _)) _).setCell (fun h => absurd h (Nat.lt_irrefl _)) _).setCell (fun h => absurd h (Nat.lt_irrefl _)) _
theorem readCodeL_any (l : List UInt8) (hl : l.length ≤ 100000) (w : World) :
    Calls Tryz.prog 30 #[.string (bs l)] w fun e w' => e = .returned (.tuple #[cdV (cdL l), .bool (cdF l)]) ∧ Fr [] w w' := by
  have HLL := Lib.hid hl
  obtain ⟨wA, hwA⟩ : ∃ z, w.alloc (.cells #[.int .i64 0, .int .i64 0, .int .i64 0] 62) = z := ⟨_, rfl⟩
  have HR0 := Lib.hid (show CdAt wA w.heap.size ⟨0, 0, 0⟩ from by rw [← hwA]; exact CdAt.made w ⟨0, 0, 0⟩)
  have HFA := Lib.hid (show Fr [] w wA from by rw [← hwA]; exact (Fr.refl [] w).alloc _)
  have HZA := Lib.hid (show wA.heap.size = w.heap.size + 1 from by rw [← hwA]; simp)
  have HWO := Lib.hid (wordsL_any l hl wA)
  have HWL := Lib.hid (wordsL_len l)
  have HWH := Lib.hid (wordsL_short l)
  have HNE := Lib.hid (wordsL_ne l)
  obtain ⟨ws, hws⟩ : ∃ ws, wordsL l = ws := ⟨_, rfl⟩
  have HQ := Lib.hid hws
  rw [hws] at HWO HWL HWH HNE
  obtain ⟨n, hn⟩ : ∃ n, ws.length = n := ⟨_, rfl⟩
  have HN := Lib.hid hn
  have HWS := Lib.hid (show ∀ x ∈ ws, x.length ≤ 100000 from fun x hx => by have := HWH.out x hx; have := HLL.out; omega)
  clear hl hws hn HWH
  go_enter Tryz.func30, Tryz.ntmps30
  go_wp2_with fail
  clear hwA
  refine HWO.out.mono ?_
  rintro e w1 ⟨v1, rfl, hsr, f1⟩
  have hne : 0 < ws.length := List.length_pos_iff.2 HNE.out
  obtain ⟨g, c, rfl, _⟩ := hsr.at hne
  rw [HN.out] at hsr ⊢
  have HW1 := Lib.hid hsr.words
  have R1 := Lib.hid (HR0.out.keep f1 (by simp))
  have F1 := Lib.hid (HFA.out.step f1)
  rw [HN.out] at HWL
  clear hsr f1 hne HWO HFA
  have HNU := Lib.hid (fun (i : Nat) (hi : i < 1000) W (f : Fr [] w1 W) => numL_any g n c ws HN.out i hi (by have := HWL.out; have := HLL.out; omega) HWS.out W (HW1.out.new f))
  have HID := Lib.hid (fun (i : Nat) (hi : i < 1000) (K n0 : Nat) (tbl : List (List UInt8)) (h1 : tbl.length = n0) (h2 : n0 ≤ 1000) W (f : Fr [] w1 W) (hK : WordsBlk W K tbl) => idxL_any K n0 tbl h1 h2 g n c ws HN.out i hi (by have := HWL.out; have := HLL.out; omega) W hK.wrow (HW1.out.new f))
  have hr0 := idxL_rng (callWs.drop 1) ws 0
  have hr1 := idxL_rng codeWs ws 1
  have hq0 : (callWs.drop 1).length = 12 := rfl
  have hq1 : codeWs.length = 17 := rfl
  rw [hq0] at hr0
  rw [hq1] at hr1
  obtain ⟨z, hz⟩ : ∃ z, idxL (callWs.drop 1) ws 0 = z := ⟨_, rfl⟩
  obtain ⟨y, hy⟩ : ∃ y, idxL codeWs ws 1 = y := ⟨_, rfl⟩
  obtain ⟨v, hv⟩ : ∃ v, numL ws 2 = v := ⟨_, rfl⟩
  obtain ⟨u, hu⟩ : ∃ u, numL ws 1 = u := ⟨_, rfl⟩
  rw [hz] at hr0
  rw [hy] at hr1
  have HCL := Lib.hid (show cdL l = ⟨z + 1, if y < 0 then u else y, v⟩ from by unfold cdL; rw [HQ.out, hz, hy, hv, hu])
  have HWF0 := Lib.hid (cdL_wf l)
  have HI0 := Lib.hid (fun K W f hK => (show Calls Tryz.prog 67 #[.slice (some ⟨K, 0, none⟩) 12 12, .slice (some ⟨g, 0, none⟩) n c, .int .i64 0] W fun e w' => e = .returned (.int .i64 z) ∧ Fr [] W w' from by have h := HID.out 0 (by omega) K 12 (callWs.drop 1) rfl (by omega) W f hK; rw [hz] at h; exact h))
  have HI1 := Lib.hid (fun K W f hK => (show Calls Tryz.prog 67 #[.slice (some ⟨K, 0, none⟩) 17 17, .slice (some ⟨g, 0, none⟩) n c, .int .i64 1] W fun e w' => e = .returned (.int .i64 y) ∧ Fr [] W w' from by have h := HID.out 1 (by omega) K 17 codeWs rfl (by omega) W f hK; rw [hy] at h; exact h))
  have HN2 := Lib.hid (fun W f => (show Calls Tryz.prog 66 #[.slice (some ⟨g, 0, none⟩) n c, .int .i64 2] W fun e w' => e = .returned (.int .i64 v) ∧ w' = W from by have h := HNU.out 2 (by omega) W f; rw [hv] at h; exact h))
  have HN1 := Lib.hid (fun W f => (show Calls Tryz.prog 66 #[.slice (some ⟨g, 0, none⟩) n c, .int .i64 1] W fun e w' => e = .returned (.int .i64 u) ∧ w' = W from by have h := HNU.out 1 (by omega) W f; rw [hu] at h; exact h))
  clear hz hy hv hu HNU HID hq0 hq1
  go_wp2_with fail
  refine (lawCalls_any w1).mono ?_
  rintro e w2 ⟨K2, rfl, hK2, f2, -⟩
  have B2 := Lib.hid hK2
  have G2 := Lib.hid f2
  clear hK2 f2
  go_wp2_with fail
  refine (HI0.out K2 _ G2.out B2.out).mono ?_
  rintro e w3 ⟨rfl, f3⟩
  have G3 := Lib.hid (G2.out.step f3)
  clear f3 B2
  go_wp2_with fail
  refine (lawCodes_any w3).mono ?_
  rintro e w4 ⟨K4, rfl, hK4, f4, -⟩
  have B4 := Lib.hid hK4
  have G4 := Lib.hid (G3.out.step f4)
  clear hK4 f4
  go_wp2_with fail
  refine (HI1.out K4 _ G4.out B4.out).mono ?_
  rintro e w5 ⟨rfl, f5⟩
  have G5 := Lib.hid (G4.out.step f5)
  clear f5 B4
  go_wp2_with fail
  refine (HN2.out _ G5.out).mono ?_
  rintro e w' ⟨rfl, hw'⟩
  subst hw'
  obtain ⟨a, ha⟩ : ∃ a, z + 1 = a := ⟨_, rfl⟩
  obtain ⟨w6, hw6⟩ : ∃ q, w'.alloc (.cells #[.int .i64 a, .int .i64 y, .int .i64 v] 62) = q := ⟨_, rfl⟩
  have X6 := Lib.hid (show CdAt w6 w'.heap.size ⟨a, y, v⟩ from by rw [← hw6]; exact CdAt.made w' ⟨a, y, v⟩)
  have f6 : Fr [] w' w6 := by rw [← hw6]; exact (Fr.refl [] w').alloc _
  have G6 := Lib.hid (G5.out.step f6)
  have R6 := Lib.hid (R1.out.keep G6.out (by simp))
  have F6 := Lib.hid (F1.out.step G6.out)
  have HRE := Lib.hid (show w.heap.size < w'.heap.size from Nat.lt_of_lt_of_le R1.out.lt G5.out.size)
  have y1 := X6.out.c1
  simp only at y1
  rw [ha] at HCL
  clear f6
  go_upto_region 3 with fail
  try rw [ha, hw6]
  obtain ⟨E, hE⟩ : ∃ E, w'.heap.size = E := ⟨_, rfl⟩
  rw [hE] at X6 HRE y1
  simp only [hE]
  clear ha hw6 hE
  by_cases hy0 : y < 0
  · have d0 := decide_eq_true hy0
    rw [if_pos hy0] at HCL
    go_wp2_with fail
    refine (HN1.out _ G6.out).mono ?_
    rintro e w' ⟨rfl, hw'⟩
    subst hw'
    have yz := X6.out.fz 1
    obtain ⟨W2, hW2⟩ : ∃ q, w'.setCell ⟨E, 1, none⟩ (.int .i64 u) = q := ⟨_, rfl⟩
    have X2 := Lib.hid (show CdAt W2 E ⟨a, u, v⟩ from by rw [← hW2]; exact X6.out.set1 u)
    have fW : Fr [E] w' W2 := by rw [← hW2]; exact (Fr.refl [E] w').setCell (fun _ => by simp) _
    have R2 := Lib.hid (R6.out.keep fW (by rw [List.mem_singleton]; have := HRE.out; omega))
    have F2 := Lib.hid (show Fr [] w W2 from F6.out.trans fW (fun x hx hl => by rw [List.mem_singleton] at hx; have := HRE.out; omega))
    have hb : u = u := rfl
    obtain ⟨b, rfl⟩ : ∃ b, b = u := ⟨u, rfl⟩
    have HX := HCL
    have HWF := Lib.hid (show (⟨a, b, v⟩ : Cd).wf from by rw [← HX.out]; exact HWF0.out)
    have HFF := Lib.hid (show cdF l = ((⟨a, b, v⟩ : Cd).ok && decide (cdB ⟨a, b, v⟩ = l)) from by
      unfold cdF
      rw [HX.out]
      cases (⟨a, b, v⟩ : Cd).ok <;> simp)
    clear fW hb
    go_upto_region 5 with fail
    try rw [hW2]
    clear hW2 y1 yz
    have x0 := X2.out.c0
    have x1 := X2.out.c1
    have x2 := X2.out.c2
    simp only at x0 x1 x2
    have hline := codeLineL_any ⟨a, b, v⟩ HWF.out W2
    simp only at hline
    have HLI := Lib.hid hline
    clear hline
    go_wp2_with fail
    refine HLI.out.mono ?_
    rintro e w3 ⟨rfl, f3⟩
    have X3 := Lib.hid (X2.out.keep f3 (by simp))
    have R3 := Lib.hid (R2.out.keep f3 (by simp))
    have F3 := Lib.hid (F2.out.step f3)
    clear x0 x1 x2 f3 HLI
    have x0 := X3.out.c0
    have x1 := X3.out.c1
    have x2 := X3.out.c2
    have r0 := R3.out.c0
    have r1 := R3.out.c1
    have r2 := R3.out.c2
    have rz := R3.out.fz
    have hne : w.heap.size ≠ E := by have := HRE.out; omega
    simp only at x0 x1 x2 r0 r1 r2
    have hfl : cdF l = ((⟨a, b, v⟩ : Cd).ok && decide (cdB ⟨a, b, v⟩ = l)) := HFF.out
    have hel := eqLists (cdB ⟨a, b, v⟩) l
    obtain ⟨ok, hok⟩ : ∃ z, (⟨a, b, v⟩ : Cd).ok = z := ⟨_, rfl⟩
    obtain ⟨ed, hed⟩ : ∃ z, decide (cdB ⟨a, b, v⟩ = l) = z := ⟨_, rfl⟩
    obtain ⟨Y, hY⟩ : ∃ Y, bs (cdB ⟨a, b, v⟩) = Y := ⟨_, rfl⟩
    obtain ⟨Z, hZ⟩ : ∃ Z, bs l = Z := ⟨_, rfl⟩
    rw [hok, hed] at hfl
    rw [hed, hY, hZ] at hel
    rw [hok, hY]
    simp only [hZ]
    have HFL := Lib.hid hfl
    have HQ1 := Lib.hid (R3.out.setAll ⟨a, b, v⟩)
    clear hok hed hY hZ hfl
    cases ok with
    | false =>
      go_wp2
      have n0 := HQ1.out.c0
      have n1 := HQ1.out.c1
      have n2 := HQ1.out.c2
      simp only at n0 n1 n2
      clear r0 r1 r2 x0 x1 x2
      refine bodyPost_ret (v := .tuple #[cdV ⟨a, b, v⟩, .bool false]) (by simp [cdV, results, Tryz.results30, go_sem, n0, n1, n2]) rfl ?_
      refine ⟨by rw [HX.out, HFL.out]; rfl, ?_⟩
      exact ((F3.out.setCell (fun h => absurd h (Nat.lt_irrefl _)) _).setCell (fun h => absurd h (Nat.lt_irrefl _)) _).setCell (fun h => absurd h (Nat.lt_irrefl _)) _
    | true =>
      go_wp2
      have n0 := HQ1.out.c0
      have n1 := HQ1.out.c1
      have n2 := HQ1.out.c2
      simp only at n0 n1 n2
      clear r0 r1 r2 x0 x1 x2
      refine bodyPost_ret (v := .tuple #[cdV ⟨a, b, v⟩, .bool ed]) (by simp [cdV, results, Tryz.results30, go_sem, n0, n1, n2]) rfl ?_
      refine ⟨by rw [HX.out, HFL.out]; rfl, ?_⟩
      exact ((F3.out.setCell (fun h => absurd h (Nat.lt_irrefl _)) _).setCell (fun h => absurd h (Nat.lt_irrefl _)) _).setCell (fun h => absurd h (Nat.lt_irrefl _)) _
  · have d0 := decide_eq_false hy0
    rw [if_neg hy0] at HCL
    obtain ⟨W2, rfl⟩ : ∃ q, q = w6 := ⟨w6, rfl⟩
    obtain ⟨b, rfl⟩ : ∃ b, b = y := ⟨y, rfl⟩
    have X2 := X6
    have R2 := R6
    have F2 := F6
    have HX := HCL
    have HWF := Lib.hid (show (⟨a, b, v⟩ : Cd).wf from by rw [← HX.out]; exact HWF0.out)
    have HFF := Lib.hid (show cdF l = ((⟨a, b, v⟩ : Cd).ok && decide (cdB ⟨a, b, v⟩ = l)) from by
      unfold cdF
      rw [HX.out]
      cases (⟨a, b, v⟩ : Cd).ok <;> simp)
    go_upto_region 5 with fail
    clear y1
    have x0 := X2.out.c0
    have x1 := X2.out.c1
    have x2 := X2.out.c2
    simp only at x0 x1 x2
    have hline := codeLineL_any ⟨a, b, v⟩ HWF.out W2
    simp only at hline
    have HLI := Lib.hid hline
    clear hline
    go_wp2_with fail
    refine HLI.out.mono ?_
    rintro e w3 ⟨rfl, f3⟩
    have X3 := Lib.hid (X2.out.keep f3 (by simp))
    have R3 := Lib.hid (R2.out.keep f3 (by simp))
    have F3 := Lib.hid (F2.out.step f3)
    clear x0 x1 x2 f3 HLI
    have x0 := X3.out.c0
    have x1 := X3.out.c1
    have x2 := X3.out.c2
    have r0 := R3.out.c0
    have r1 := R3.out.c1
    have r2 := R3.out.c2
    have rz := R3.out.fz
    have hne : w.heap.size ≠ E := by have := HRE.out; omega
    simp only at x0 x1 x2 r0 r1 r2
    have hfl : cdF l = ((⟨a, b, v⟩ : Cd).ok && decide (cdB ⟨a, b, v⟩ = l)) := HFF.out
    have hel := eqLists (cdB ⟨a, b, v⟩) l
    obtain ⟨ok, hok⟩ : ∃ z, (⟨a, b, v⟩ : Cd).ok = z := ⟨_, rfl⟩
    obtain ⟨ed, hed⟩ : ∃ z, decide (cdB ⟨a, b, v⟩ = l) = z := ⟨_, rfl⟩
    obtain ⟨Y, hY⟩ : ∃ Y, bs (cdB ⟨a, b, v⟩) = Y := ⟨_, rfl⟩
    obtain ⟨Z, hZ⟩ : ∃ Z, bs l = Z := ⟨_, rfl⟩
    rw [hok, hed] at hfl
    rw [hed, hY, hZ] at hel
    rw [hok, hY]
    simp only [hZ]
    have HFL := Lib.hid hfl
    have HQ1 := Lib.hid (R3.out.setAll ⟨a, b, v⟩)
    clear hok hed hY hZ hfl
    cases ok with
    | false =>
      go_wp2
      have n0 := HQ1.out.c0
      have n1 := HQ1.out.c1
      have n2 := HQ1.out.c2
      simp only at n0 n1 n2
      clear r0 r1 r2 x0 x1 x2
      refine bodyPost_ret (v := .tuple #[cdV ⟨a, b, v⟩, .bool false]) (by simp [cdV, results, Tryz.results30, go_sem, n0, n1, n2]) rfl ?_
      refine ⟨by rw [HX.out, HFL.out]; rfl, ?_⟩
      exact ((F3.out.setCell (fun h => absurd h (Nat.lt_irrefl _)) _).setCell (fun h => absurd h (Nat.lt_irrefl _)) _).setCell (fun h => absurd h (Nat.lt_irrefl _)) _
    | true =>
      go_wp2
      have n0 := HQ1.out.c0
      have n1 := HQ1.out.c1
      have n2 := HQ1.out.c2
      simp only at n0 n1 n2
      clear r0 r1 r2 x0 x1 x2
      refine bodyPost_ret (v := .tuple #[cdV ⟨a, b, v⟩, .bool ed]) (by simp [cdV, results, Tryz.results30, go_sem, n0, n1, n2]) rfl ?_
      refine ⟨by rw [HX.out, HFL.out]; rfl, ?_⟩
      exact ((F3.out.setCell (fun h => absurd h (Nat.lt_irrefl _)) _).setCell (fun h => absurd h (Nat.lt_irrefl _)) _).setCell (fun h => absurd h (Nat.lt_irrefl _)) _
end Go.Proofs.YtllmejkcohfbiaaGreatDoor
namespace Go.Proofs.YtllmejkcohfbiaaGreatDoor
open Go.RowKit Go.Shelf Go.Sort Go.Lib
set_option linter.unusedVariables false
set_option linter.unusedSimpArgs false
set_option maxRecDepth 100000
set_option maxHeartbeats 16000000

theorem fr_oneB {B : Nat} (w : World) (o : Nat) (u : Value) : Fr [B] w (w.setCell ⟨B, o, none⟩ u) := (Fr.refl [B] w).setCell (fun _ => by simp) _
theorem bkL_ok {x : Bk} (h : x.ok = true) : bkL x = bkB x := by
  have := bkL_text [x] (by simp [h])
  simpa [textOf] using this
theorem bkF_eq (l : List UInt8) : bkF l = ((bkLw l).ok && decide (bkL (bkLw l) = l)) := by
  unfold bkF
  cases h : (bkLw l).ok with
  | false => simp
  | true =>
    rw [bkL_ok h]
    simp
theorem readBlockedL_any (l : List UInt8) (hl : l.length ≤ 100000) (w : World) :
    Calls Tryz.prog 31 #[.string (bs l)] w fun e w' => e = .returned (.tuple #[bkV (bkLw l), .bool (bkF l)]) ∧ Fr [] w w' := by
  have HLL := Lib.hid hl
  obtain ⟨wA, hwA⟩ : ∃ z, w.alloc (.cells #[.int .i64 0, .int .i64 0, .int .u64 0] 67) = z := ⟨_, rfl⟩
  have HR0 := Lib.hid (show BkAt wA w.heap.size ⟨0, 0, 0⟩ from by rw [← hwA]; exact BkAt.made w ⟨0, 0, 0⟩)
  have HFA := Lib.hid (show Fr [] w wA from by rw [← hwA]; exact (Fr.refl [] w).alloc _)
  have HZA := Lib.hid (show wA.heap.size = w.heap.size + 1 from by rw [← hwA]; simp)
  have HWO := Lib.hid (wordsL_any l hl wA)
  have HWL := Lib.hid (wordsL_len l)
  have HWH := Lib.hid (wordsL_short l)
  have HNE := Lib.hid (wordsL_ne l)
  obtain ⟨ws, hws⟩ : ∃ ws, wordsL l = ws := ⟨_, rfl⟩
  have HQ := Lib.hid hws
  rw [hws] at HWO HWL HWH HNE
  obtain ⟨n, hn⟩ : ∃ n, ws.length = n := ⟨_, rfl⟩
  have HN := Lib.hid hn
  have HWS := Lib.hid (show ∀ x ∈ ws, x.length ≤ 100000 from fun x hx => by have := HWH.out x hx; have := HLL.out; omega)
  clear hl hws hn HWH
  go_enter Tryz.func31, Tryz.ntmps31
  go_wp2_with fail
  clear hwA
  refine HWO.out.mono ?_
  rintro e w1 ⟨v1, rfl, hsr, f1⟩
  have hne : 0 < ws.length := List.length_pos_iff.2 HNE.out
  obtain ⟨g, c, rfl, _⟩ := hsr.at hne
  rw [HN.out] at hsr ⊢
  have HW1 := Lib.hid hsr.words
  have R1 := Lib.hid (HR0.out.keep f1 (by simp))
  have F1 := Lib.hid (HFA.out.step f1)
  rw [HN.out] at HWL
  clear hsr f1 hne HWO HFA
  have HNU := Lib.hid (fun (i : Nat) (hi : i < 1000) W (f : Fr [] w1 W) => numL_any g n c ws HN.out i hi (by have := HWL.out; have := HLL.out; omega) HWS.out W (HW1.out.new f))
  have HID := Lib.hid (fun (i : Nat) (hi : i < 1000) (K n0 : Nat) (tbl : List (List UInt8)) (h1 : tbl.length = n0) (h2 : n0 ≤ 1000) W (f : Fr [] w1 W) (hK : WordsBlk W K tbl) => idxL_any K n0 tbl h1 h2 g n c ws HN.out i hi (by have := HWL.out; have := HLL.out; omega) W hK.wrow (HW1.out.new f))
  obtain ⟨a, ha⟩ : ∃ z, numL ws 0 = z := ⟨_, rfl⟩
  obtain ⟨b, hb⟩ : ∃ y, idxL whyWs ws 1 = y := ⟨_, rfl⟩
  have HCL := Lib.hid (show bkLw l = ⟨a, b, timeL ws⟩ from by unfold bkLw; rw [HQ.out, ha, hb])
  have HWF0 := Lib.hid (bkL_wf l)
  have HI1 := Lib.hid (fun K W f hK => (show Calls Tryz.prog 67 #[.slice (some ⟨K, 0, none⟩) 7 7, .slice (some ⟨g, 0, none⟩) n c, .int .i64 1] W fun e w' => e = .returned (.int .i64 b) ∧ Fr [] W w' from by have h := HID.out 1 (by omega) K 7 whyWs rfl (by omega) W f hK; rw [hb] at h; exact h))
  have HN0 := Lib.hid (fun W f => (show Calls Tryz.prog 66 #[.slice (some ⟨g, 0, none⟩) n c, .int .i64 0] W fun e w' => e = .returned (.int .i64 a) ∧ w' = W from by have h := HNU.out 0 (by omega) W f; rw [ha] at h; exact h))
  clear ha hb HNU HID
  go_wp2_with fail
  refine (HN0.out _ (Fr.refl _ _)).mono ?_
  rintro e w' ⟨rfl, hw'⟩
  subst hw'
  go_wp2_with fail
  refine (lawWhys_any _).mono ?_
  rintro e w2 ⟨K2, rfl, hK2, f2, -⟩
  have B2 := Lib.hid hK2
  have G2 := Lib.hid f2
  clear hK2 f2
  go_wp2_with fail
  refine (HI1.out K2 _ G2.out B2.out).mono ?_
  rintro e w5 ⟨rfl, f5⟩
  have G5 := Lib.hid (G2.out.step f5)
  clear f5 B2
  obtain ⟨w6, hw6⟩ : ∃ q, w5.alloc (.cells #[.int .i64 a, .int .i64 b, .int .u64 18446744073709551615] 67) = q := ⟨_, rfl⟩
  have X6 := Lib.hid (show BkAt w6 w5.heap.size ⟨a, b, 18446744073709551615⟩ from by rw [← hw6]; exact BkAt.made w5 ⟨a, b, 18446744073709551615⟩)
  have f6 : Fr [] w5 w6 := by rw [← hw6]; exact (Fr.refl [] w5).alloc _
  have G6 := Lib.hid (G5.out.step f6)
  have R6 := Lib.hid (R1.out.keep G6.out (by simp))
  have F6 := Lib.hid (F1.out.step G6.out)
  have HRE := Lib.hid (show w.heap.size < w5.heap.size from Nat.lt_of_lt_of_le R1.out.lt G5.out.size)
  have HGE := Lib.hid (show w'.heap.size ≤ w5.heap.size from G5.out.size)
  clear f6
  go_upto_region 3 with fail
  try rw [hw6]
  obtain ⟨E, hE⟩ : ∃ E, w5.heap.size = E := ⟨_, rfl⟩
  rw [hE] at X6 HRE HGE
  simp only [hE]
  clear hw6 hE
  have HGL := Lib.hid (show ∀ (j : Nat) x, ws[j]? = some x → g < E from fun j x hj => by
    have h1 := cell_lt (HW1.out j x hj)
    have h2 := HGE.out
    omega)
  by_cases h3 : (3 : Int) < (n : Int)
  · have d3 := decide_eq_true h3
    obtain ⟨x3, hx3⟩ : ∃ x, ws[3]? = some x := ⟨_, List.getElem?_eq_getElem (by rw [HN.out]; omega)⟩
    have hx3l := HWS.out x3 (List.mem_of_getElem? hx3)
    have hgl := HGL.out 3 x3 hx3
    have C3 := Lib.hid (HW1.out 3 x3 hx3)
    have c3 := G6.out.keep C3.out (by simp)
    have HTL := Lib.hid (show timeL ws = if x3 = [110, 101, 118, 101, 114] then 18446744073709551615 else timeX x3 from by unfold timeL; rw [hx3])
    have hel := eqLists x3 [110, 101, 118, 101, 114]
    have hbn : bs [110, 101, 118, 101, 114] = ⟨#[110, 101, 118, 101, 114]⟩ := rfl
    rw [hbn] at hel
    have hnq : ∀ W, (binOp .neq 9 (.string (bs x3)) (.string ⟨#[110, 101, 118, 101, 114]⟩)).run Tryz.prog W = .ok (.bool (!decide (x3 = [110, 101, 118, 101, 114]))) W := fun W => by
      rw [binOp_string_neq, hel]
      rfl
    have hl1 : (bs x3).toList = x3 := bs_toList x3
    have hl2 : ((bs x3).toList == [110, 101, 118, 101, 114]) = decide (x3 = [110, 101, 118, 101, 114]) := by rw [hl1]; exact Bool.eq_iff_iff.2 (by simp)
    clear hx3 hbn
    by_cases hnv : x3 = [110, 101, 118, 101, 114]
    · rw [decide_eq_true hnv] at hel hnq hl2
      have hl3 : (bs x3).toList = [110, 101, 118, 101, 114] := hl1.trans hnv
      clear hl1
      simp only [Bool.not_true] at hnq
      rw [if_pos hnv] at HTL
      rw [HTL.out] at HCL
      obtain ⟨X3, hX3⟩ : ∃ z, bs x3 = z := ⟨_, rfl⟩
      rw [hX3] at hel c3 hnq hl2 hl3
      clear hX3 hnv
      go_upto_region 9 with fail
      clear c3 hel hnq hl2 hl3
      obtain ⟨W2, rfl⟩ : ∃ q, q = w6 := ⟨w6, rfl⟩
      obtain ⟨v, hv⟩ : ∃ v : Int, v = 18446744073709551615 := ⟨_, rfl⟩
      have X2 := Lib.hid (show BkAt W2 E ⟨a, b, v⟩ from by rw [hv]; exact X6.out)
      rw [← hv] at HCL
      have R2 := R6
      have F2 := F6
      clear hv
      have HX := HCL
      have HWF := Lib.hid (show (⟨a, b, v⟩ : Bk).wf from by rw [← HX.out]; exact HWF0.out)
      have HFF := Lib.hid (show bkF l = ((⟨a, b, v⟩ : Bk).ok && decide (bkL ⟨a, b, v⟩ = l)) from by rw [bkF_eq, HX.out])
      have x0 := X2.out.c0
      have x1 := X2.out.c1
      have x2 := X2.out.c2
      simp only at x0 x1 x2
      have hline := blockedLineL_any ⟨a, b, v⟩ HWF.out W2
      simp only at hline
      have HLI := Lib.hid hline
      clear hline
      go_wp2_with fail
      refine HLI.out.mono ?_
      rintro e w3 ⟨rfl, f3⟩
      have X3 := Lib.hid (X2.out.keep f3 (by simp))
      have R3 := Lib.hid (R2.out.keep f3 (by simp))
      have F3 := Lib.hid (F2.out.step f3)
      clear x0 x1 x2 f3 HLI
      have x0 := X3.out.c0
      have x1 := X3.out.c1
      have x2 := X3.out.c2
      have r0 := R3.out.c0
      have r1 := R3.out.c1
      have r2 := R3.out.c2
      have rz := R3.out.fz
      have hne : w.heap.size ≠ E := by have := HRE.out; omega
      simp only at x0 x1 x2 r0 r1 r2
      have hfl : bkF l = ((⟨a, b, v⟩ : Bk).ok && decide (bkL ⟨a, b, v⟩ = l)) := HFF.out
      have hel := eqLists (bkL ⟨a, b, v⟩) l
      obtain ⟨ok, hok⟩ : ∃ z, (⟨a, b, v⟩ : Bk).ok = z := ⟨_, rfl⟩
      obtain ⟨ed, hed⟩ : ∃ z, decide (bkL ⟨a, b, v⟩ = l) = z := ⟨_, rfl⟩
      obtain ⟨Y, hY⟩ : ∃ Y, bs (bkL ⟨a, b, v⟩) = Y := ⟨_, rfl⟩
      obtain ⟨Z, hZ⟩ : ∃ Z, bs l = Z := ⟨_, rfl⟩
      rw [hok, hed] at hfl
      rw [hed, hY, hZ] at hel
      rw [hok, hY]
      simp only [hZ]
      have HFL := Lib.hid hfl
      have HQ1 := Lib.hid (R3.out.setAll ⟨a, b, v⟩)
      clear hok hed hY hZ hfl
      cases ok with
      | false =>
        go_wp2
        have n0 := HQ1.out.c0
        have n1 := HQ1.out.c1
        have n2 := HQ1.out.c2
        simp only at n0 n1 n2
        clear r0 r1 r2 x0 x1 x2
        refine bodyPost_ret (v := .tuple #[bkV ⟨a, b, v⟩, .bool false]) (by simp [bkV, results, Tryz.results31, go_sem, n0, n1, n2]) rfl ?_
        refine ⟨by rw [HX.out, HFL.out]; rfl, ?_⟩
        exact ((F3.out.setCell (fun h => absurd h (Nat.lt_irrefl _)) _).setCell (fun h => absurd h (Nat.lt_irrefl _)) _).setCell (fun h => absurd h (Nat.lt_irrefl _)) _
      | true =>
        go_wp2
        have n0 := HQ1.out.c0
        have n1 := HQ1.out.c1
        have n2 := HQ1.out.c2
        simp only at n0 n1 n2
        clear r0 r1 r2 x0 x1 x2
        refine bodyPost_ret (v := .tuple #[bkV ⟨a, b, v⟩, .bool ed]) (by simp [bkV, results, Tryz.results31, go_sem, n0, n1, n2]) rfl ?_
        refine ⟨by rw [HX.out, HFL.out]; rfl, ?_⟩
        exact ((F3.out.setCell (fun h => absurd h (Nat.lt_irrefl _)) _).setCell (fun h => absurd h (Nat.lt_irrefl _)) _).setCell (fun h => absurd h (Nat.lt_irrefl _)) _
    · rw [decide_eq_false hnv] at hel hnq hl2
      have hl3 : ¬ (bs x3).toList = [110, 101, 118, 101, 114] := by rw [hl1]; exact hnv
      clear hl1
      simp only [Bool.not_false] at hnq
      rw [if_neg hnv] at HTL
      rw [HTL.out] at HCL
      have hxz : (bs x3).size = x3.length := bs_size x3
      have yz := X6.out.fz 2
      have y2 := X6.out.c2
      simp only at y2
      have X7 := Lib.hid (show BkAt (w6.setCell ⟨E, 2, none⟩ (.int .u64 0)) E ⟨a, b, 0⟩ from X6.out.set2 0)
      have F7 := Lib.hid (fr_oneB (B := E) w6 2 (.int .u64 0))
      go_upto_region 4 with fail
      clear c3 hel hnq hl2 hl3
      go_wp2
      go_loopw [6] (fun s6 wr => ∃ (wz : World) (k : Nat), wz = wr ∧ s6 = .int .i64 k ∧ k ≤ x3.length ∧ k ≤ 21 ∧ BkAt wr E ⟨a, b, (x3.take k).foldl tstep 0⟩ ∧ Fr [E] w6 wr) (fun s6 _ => 21 - (intOf s6).toNat)
      case atStart => exact ⟨_, 0, rfl, rfl, by omega, by omega, X7.out, F7.out⟩
      case round =>
        obtain ⟨wr, k, hwz, rfl, hk, hk21, hX, hF⟩ := hrel
        subst hwz
        have HX8 := Lib.hid hX
        have HF8 := Lib.hid hF
        have c3 := hF.keep (G6.out.keep C3.out (by simp)) (by rw [List.mem_singleton]; omega)
        clear hX hF
        by_cases hkl : k < x3.length
        · have hkl' : (k : Int) < (x3.length : Int) := by omega
          have dk := decide_eq_true hkl'
          by_cases hk2 : k < 21
          · have hk2' : (k : Int) < 21 := by omega
            have dk2 := decide_eq_true hk2'
            obtain ⟨y, hy⟩ : ∃ y, x3[k]? = some y := ⟨_, List.getElem?_eq_getElem hkl⟩
            have hidx := fun W => idxStr x3 k y hy W
            have htk : (x3.take (k + 1)).foldl tstep 0 = tstep ((x3.take k).foldl tstep 0) y := by rw [List.take_add_one, hy, List.foldl_append]; rfl
            have hrg := tfold_rng (x3.take k) 0 (by omega)
            obtain ⟨z, hz⟩ : ∃ z, (x3.take k).foldl tstep 0 = z := ⟨_, rfl⟩
            rw [hz] at HX8 htk hrg
            have z0 := HX8.out.c0
            have z1 := HX8.out.c1
            have z2 := HX8.out.c2
            have zz := HX8.out.fz 2
            simp only at z0 z1 z2
            have HX9 := Lib.hid (show BkAt (wr.setCell ⟨E, 2, none⟩ (.int .u64 (tstep z y))) E ⟨a, b, (x3.take (k + 1)).foldl tstep 0⟩ from by rw [htk]; exact HX8.out.set2 _)
            have HF9 := Lib.hid (show Fr [E] w6 (wr.setCell ⟨E, 2, none⟩ (.int .u64 (tstep z y))) from HF8.out.setCell (fun _ => by simp) _)
            unfold tstep at HX9 HF9
            clear hy htk hz
            go_wp2
            go_region
            go_wp2
            go_roundw
            case rel => exact ⟨_, k + 1, rfl, by go_num, by omega, by omega, HX9.out, HF9.out.drewN 1⟩
            case measure => simp [intOf]; omega
          · have hk2' : ¬ (k : Int) < 21 := by omega
            have dk2 := decide_eq_false hk2'
            have htx : timeX x3 = (x3.take k).foldl tstep 0 := by unfold timeX; rw [show k = 21 from by omega]
            rw [htx] at HCL
            obtain ⟨v, hv⟩ : ∃ z, (x3.take k).foldl tstep 0 = z := ⟨_, rfl⟩
            rw [hv] at HCL HX8
            clear htx hv
            go_upto_region 9 with fail
            clear c3
            obtain ⟨W2, rfl⟩ : ∃ q, q = wr := ⟨wr, rfl⟩
            have X2 := HX8
            have R2 := Lib.hid (R6.out.keep HF8.out (by rw [List.mem_singleton]; have := HRE.out; omega))
            have F2 := Lib.hid (show Fr [] w W2 from F6.out.trans HF8.out (fun x hx hl => by rw [List.mem_singleton] at hx; have := HRE.out; omega))
            have HX := HCL
            have HWF := Lib.hid (show (⟨a, b, v⟩ : Bk).wf from by rw [← HX.out]; exact HWF0.out)
            have HFF := Lib.hid (show bkF l = ((⟨a, b, v⟩ : Bk).ok && decide (bkL ⟨a, b, v⟩ = l)) from by rw [bkF_eq, HX.out])
            have x0 := X2.out.c0
            have x1 := X2.out.c1
            have x2 := X2.out.c2
            simp only at x0 x1 x2
            have hline := blockedLineL_any ⟨a, b, v⟩ HWF.out W2
            simp only at hline
            have HLI := Lib.hid hline
            clear hline
            go_wp2_with fail
            refine HLI.out.mono ?_
            rintro e w3 ⟨rfl, f3⟩
            have X3 := Lib.hid (X2.out.keep f3 (by simp))
            have R3 := Lib.hid (R2.out.keep f3 (by simp))
            have F3 := Lib.hid (F2.out.step f3)
            clear x0 x1 x2 f3 HLI
            have x0 := X3.out.c0
            have x1 := X3.out.c1
            have x2 := X3.out.c2
            have r0 := R3.out.c0
            have r1 := R3.out.c1
            have r2 := R3.out.c2
            have rz := R3.out.fz
            have hne : w.heap.size ≠ E := by have := HRE.out; omega
            simp only at x0 x1 x2 r0 r1 r2
            have hfl : bkF l = ((⟨a, b, v⟩ : Bk).ok && decide (bkL ⟨a, b, v⟩ = l)) := HFF.out
            have hel := eqLists (bkL ⟨a, b, v⟩) l
            obtain ⟨ok, hok⟩ : ∃ z, (⟨a, b, v⟩ : Bk).ok = z := ⟨_, rfl⟩
            obtain ⟨ed, hed⟩ : ∃ z, decide (bkL ⟨a, b, v⟩ = l) = z := ⟨_, rfl⟩
            obtain ⟨Y, hY⟩ : ∃ Y, bs (bkL ⟨a, b, v⟩) = Y := ⟨_, rfl⟩
            obtain ⟨Z, hZ⟩ : ∃ Z, bs l = Z := ⟨_, rfl⟩
            rw [hok, hed] at hfl
            rw [hed, hY, hZ] at hel
            rw [hok, hY]
            simp only [hZ]
            have HFL := Lib.hid hfl
            have HQ1 := Lib.hid (R3.out.setAll ⟨a, b, v⟩)
            clear hok hed hY hZ hfl
            cases ok with
            | false =>
              go_wp2
              have n0 := HQ1.out.c0
              have n1 := HQ1.out.c1
              have n2 := HQ1.out.c2
              simp only at n0 n1 n2
              clear r0 r1 r2 x0 x1 x2
              refine bodyPost_ret (v := .tuple #[bkV ⟨a, b, v⟩, .bool false]) (by simp [bkV, results, Tryz.results31, go_sem, n0, n1, n2]) rfl ?_
              refine ⟨by rw [HX.out, HFL.out]; rfl, ?_⟩
              exact ((F3.out.setCell (fun h => absurd h (Nat.lt_irrefl _)) _).setCell (fun h => absurd h (Nat.lt_irrefl _)) _).setCell (fun h => absurd h (Nat.lt_irrefl _)) _
            | true =>
              go_wp2
              have n0 := HQ1.out.c0
              have n1 := HQ1.out.c1
              have n2 := HQ1.out.c2
              simp only at n0 n1 n2
              clear r0 r1 r2 x0 x1 x2
              refine bodyPost_ret (v := .tuple #[bkV ⟨a, b, v⟩, .bool ed]) (by simp [bkV, results, Tryz.results31, go_sem, n0, n1, n2]) rfl ?_
              refine ⟨by rw [HX.out, HFL.out]; rfl, ?_⟩
              exact ((F3.out.setCell (fun h => absurd h (Nat.lt_irrefl _)) _).setCell (fun h => absurd h (Nat.lt_irrefl _)) _).setCell (fun h => absurd h (Nat.lt_irrefl _)) _
        · have hkl' : ¬ (k : Int) < (x3.length : Int) := by omega
          have dk := decide_eq_false hkl'
          have htx : timeX x3 = (x3.take k).foldl tstep 0 := by unfold timeX; rw [List.take_of_length_le (by omega), List.take_of_length_le (by omega)]
          rw [htx] at HCL
          obtain ⟨v, hv⟩ : ∃ z, (x3.take k).foldl tstep 0 = z := ⟨_, rfl⟩
          rw [hv] at HCL HX8
          clear htx hv
          go_upto_region 9 with fail
          clear c3
          obtain ⟨W2, rfl⟩ : ∃ q, q = wr := ⟨wr, rfl⟩
          have X2 := HX8
          have R2 := Lib.hid (R6.out.keep HF8.out (by rw [List.mem_singleton]; have := HRE.out; omega))
          have F2 := Lib.hid (show Fr [] w W2 from F6.out.trans HF8.out (fun x hx hl => by rw [List.mem_singleton] at hx; have := HRE.out; omega))
          have HX := HCL
          have HWF := Lib.hid (show (⟨a, b, v⟩ : Bk).wf from by rw [← HX.out]; exact HWF0.out)
          have HFF := Lib.hid (show bkF l = ((⟨a, b, v⟩ : Bk).ok && decide (bkL ⟨a, b, v⟩ = l)) from by rw [bkF_eq, HX.out])
          have x0 := X2.out.c0
          have x1 := X2.out.c1
          have x2 := X2.out.c2
          simp only at x0 x1 x2
          have hline := blockedLineL_any ⟨a, b, v⟩ HWF.out W2
          simp only at hline
          have HLI := Lib.hid hline
          clear hline
          go_wp2_with fail
          refine HLI.out.mono ?_
          rintro e w3 ⟨rfl, f3⟩
          have X3 := Lib.hid (X2.out.keep f3 (by simp))
          have R3 := Lib.hid (R2.out.keep f3 (by simp))
          have F3 := Lib.hid (F2.out.step f3)
          clear x0 x1 x2 f3 HLI
          have x0 := X3.out.c0
          have x1 := X3.out.c1
          have x2 := X3.out.c2
          have r0 := R3.out.c0
          have r1 := R3.out.c1
          have r2 := R3.out.c2
          have rz := R3.out.fz
          have hne : w.heap.size ≠ E := by have := HRE.out; omega
          simp only at x0 x1 x2 r0 r1 r2
          have hfl : bkF l = ((⟨a, b, v⟩ : Bk).ok && decide (bkL ⟨a, b, v⟩ = l)) := HFF.out
          have hel := eqLists (bkL ⟨a, b, v⟩) l
          obtain ⟨ok, hok⟩ : ∃ z, (⟨a, b, v⟩ : Bk).ok = z := ⟨_, rfl⟩
          obtain ⟨ed, hed⟩ : ∃ z, decide (bkL ⟨a, b, v⟩ = l) = z := ⟨_, rfl⟩
          obtain ⟨Y, hY⟩ : ∃ Y, bs (bkL ⟨a, b, v⟩) = Y := ⟨_, rfl⟩
          obtain ⟨Z, hZ⟩ : ∃ Z, bs l = Z := ⟨_, rfl⟩
          rw [hok, hed] at hfl
          rw [hed, hY, hZ] at hel
          rw [hok, hY]
          simp only [hZ]
          have HFL := Lib.hid hfl
          have HQ1 := Lib.hid (R3.out.setAll ⟨a, b, v⟩)
          clear hok hed hY hZ hfl
          cases ok with
          | false =>
            go_wp2
            have n0 := HQ1.out.c0
            have n1 := HQ1.out.c1
            have n2 := HQ1.out.c2
            simp only at n0 n1 n2
            clear r0 r1 r2 x0 x1 x2
            refine bodyPost_ret (v := .tuple #[bkV ⟨a, b, v⟩, .bool false]) (by simp [bkV, results, Tryz.results31, go_sem, n0, n1, n2]) rfl ?_
            refine ⟨by rw [HX.out, HFL.out]; rfl, ?_⟩
            exact ((F3.out.setCell (fun h => absurd h (Nat.lt_irrefl _)) _).setCell (fun h => absurd h (Nat.lt_irrefl _)) _).setCell (fun h => absurd h (Nat.lt_irrefl _)) _
          | true =>
            go_wp2
            have n0 := HQ1.out.c0
            have n1 := HQ1.out.c1
            have n2 := HQ1.out.c2
            simp only at n0 n1 n2
            clear r0 r1 r2 x0 x1 x2
            refine bodyPost_ret (v := .tuple #[bkV ⟨a, b, v⟩, .bool ed]) (by simp [bkV, results, Tryz.results31, go_sem, n0, n1, n2]) rfl ?_
            refine ⟨by rw [HX.out, HFL.out]; rfl, ?_⟩
            exact ((F3.out.setCell (fun h => absurd h (Nat.lt_irrefl _)) _).setCell (fun h => absurd h (Nat.lt_irrefl _)) _).setCell (fun h => absurd h (Nat.lt_irrefl _)) _
  · have d3 := decide_eq_false h3
    have htl : timeL ws = 18446744073709551615 := by unfold timeL; rw [List.getElem?_eq_none (by rw [HN.out]; omega)]
    rw [htl] at HCL
    clear htl
    go_upto_region 9 with fail
    obtain ⟨W2, rfl⟩ : ∃ q, q = w6 := ⟨w6, rfl⟩
    obtain ⟨v, hv⟩ : ∃ v : Int, v = 18446744073709551615 := ⟨_, rfl⟩
    have X2 := Lib.hid (show BkAt W2 E ⟨a, b, v⟩ from by rw [hv]; exact X6.out)
    rw [← hv] at HCL
    have R2 := R6
    have F2 := F6
    clear hv
    have HX := HCL
    have HWF := Lib.hid (show (⟨a, b, v⟩ : Bk).wf from by rw [← HX.out]; exact HWF0.out)
    have HFF := Lib.hid (show bkF l = ((⟨a, b, v⟩ : Bk).ok && decide (bkL ⟨a, b, v⟩ = l)) from by rw [bkF_eq, HX.out])
    have x0 := X2.out.c0
    have x1 := X2.out.c1
    have x2 := X2.out.c2
    simp only at x0 x1 x2
    have hline := blockedLineL_any ⟨a, b, v⟩ HWF.out W2
    simp only at hline
    have HLI := Lib.hid hline
    clear hline
    go_wp2_with fail
    refine HLI.out.mono ?_
    rintro e w3 ⟨rfl, f3⟩
    have X3 := Lib.hid (X2.out.keep f3 (by simp))
    have R3 := Lib.hid (R2.out.keep f3 (by simp))
    have F3 := Lib.hid (F2.out.step f3)
    clear x0 x1 x2 f3 HLI
    have x0 := X3.out.c0
    have x1 := X3.out.c1
    have x2 := X3.out.c2
    have r0 := R3.out.c0
    have r1 := R3.out.c1
    have r2 := R3.out.c2
    have rz := R3.out.fz
    have hne : w.heap.size ≠ E := by have := HRE.out; omega
    simp only at x0 x1 x2 r0 r1 r2
    have hfl : bkF l = ((⟨a, b, v⟩ : Bk).ok && decide (bkL ⟨a, b, v⟩ = l)) := HFF.out
    have hel := eqLists (bkL ⟨a, b, v⟩) l
    obtain ⟨ok, hok⟩ : ∃ z, (⟨a, b, v⟩ : Bk).ok = z := ⟨_, rfl⟩
    obtain ⟨ed, hed⟩ : ∃ z, decide (bkL ⟨a, b, v⟩ = l) = z := ⟨_, rfl⟩
    obtain ⟨Y, hY⟩ : ∃ Y, bs (bkL ⟨a, b, v⟩) = Y := ⟨_, rfl⟩
    obtain ⟨Z, hZ⟩ : ∃ Z, bs l = Z := ⟨_, rfl⟩
    rw [hok, hed] at hfl
    rw [hed, hY, hZ] at hel
    rw [hok, hY]
    simp only [hZ]
    have HFL := Lib.hid hfl
    have HQ1 := Lib.hid (R3.out.setAll ⟨a, b, v⟩)
    clear hok hed hY hZ hfl
    cases ok with
    | false =>
      go_wp2
      have n0 := HQ1.out.c0
      have n1 := HQ1.out.c1
      have n2 := HQ1.out.c2
      simp only at n0 n1 n2
      clear r0 r1 r2 x0 x1 x2
      refine bodyPost_ret (v := .tuple #[bkV ⟨a, b, v⟩, .bool false]) (by simp [bkV, results, Tryz.results31, go_sem, n0, n1, n2]) rfl ?_
      refine ⟨by rw [HX.out, HFL.out]; rfl, ?_⟩
      exact ((F3.out.setCell (fun h => absurd h (Nat.lt_irrefl _)) _).setCell (fun h => absurd h (Nat.lt_irrefl _)) _).setCell (fun h => absurd h (Nat.lt_irrefl _)) _
    | true =>
      go_wp2
      have n0 := HQ1.out.c0
      have n1 := HQ1.out.c1
      have n2 := HQ1.out.c2
      simp only at n0 n1 n2
      clear r0 r1 r2 x0 x1 x2
      refine bodyPost_ret (v := .tuple #[bkV ⟨a, b, v⟩, .bool ed]) (by simp [bkV, results, Tryz.results31, go_sem, n0, n1, n2]) rfl ?_
      refine ⟨by rw [HX.out, HFL.out]; rfl, ?_⟩
      exact ((F3.out.setCell (fun h => absurd h (Nat.lt_irrefl _)) _).setCell (fun h => absurd h (Nat.lt_irrefl _)) _).setCell (fun h => absurd h (Nat.lt_irrefl _)) _
theorem readR_any (lines right many : Nat) (line e : Int) (h1 : lines ≤ 1000) (h2 : right ≤ lines) (h : (right = lines ∧ many = lines ∧ line = 0 ∧ e = 0) ∨ (right < lines ∧ many = 0 ∧ line = (right : Int) + 1 ∧ e = 6)) (w : World) :
    Calls Tryz.prog 32 #[.int .i64 lines, .int .i64 right, .int .i64 many, .int .i64 line, .int .i64 e] w fun r w' => r = .returned (.bool true) ∧ w' = w := by
  rcases h with ⟨rfl, rfl, rfl, rfl⟩ | ⟨h3, rfl, rfl, rfl⟩
  · go_enter Tryz.func32, Tryz.ntmps32
    go_wp2
    go_ret
    exact ⟨rfl, rfl⟩
  · have hne : ¬ (right : Int) = (lines : Int) := by omega
    have d1 : decide ((right : Int) = (lines : Int)) = false := decide_eq_false hne
    have b1 : ((right : Int) == (lines : Int)) = false := beq_eq_false_iff_ne.2 hne
    go_enter Tryz.func32, Tryz.ntmps32
    go_wp2
    go_ret
    exact ⟨rfl, rfl⟩
end Go.Proofs.YtllmejkcohfbiaaGreatDoor
namespace Go.Proofs.YtllmejkcohfbiaaGreatDoor
open Go.RowKit Go.Shelf Go.Sort Go.Lib
set_option linter.unusedVariables false
set_option linter.unusedSimpArgs false
set_option maxRecDepth 100000
set_option maxHeartbeats 64000000

theorem eqBkRaw (x y : Bk) (w : World) : (Op.equalIn 10000 67 (.agg #[.int .i64 x.t, .int .i64 x.why, .int .u64 x.till]) (.agg #[.int .i64 y.t, .int .i64 y.why, .int .u64 y.till])).run Tryz.prog w = .ok (decide (x = y)) w := by
  have u1 := Tryz.underlying3
  have a1 := Tryz.isAgg3
  have z1 := Tryz.sizeOf3
  have u2 := Tryz.underlying65
  have a2 := Tryz.isAgg65
  have z2 := Tryz.sizeOf65
  have u3 := Tryz.underlying39
  have a3 := Tryz.isAgg39
  have z3 := Tryz.sizeOf39
  have hS : Tryz.prog.underlying 67 = some (.struct (Tryz.prog.fieldsOf 67)) := by kernel_rfl
  have hp : Tryz.prog.stoodInHeld 67 = false := by kernel_rfl
  rw [show (10000 : Nat) = 9999 + 1 from rfl, run_equalIn_agg w 9999 67 _ _ hS hp]
  simp only [Program.fieldsOf, Tryz.underlying67]
  go_simp
  obtain ⟨a, b, c⟩ := x
  obtain ⟨a', b', c'⟩ := y
  simp only [Bk.mk.injEq]
  by_cases h1 : a = a' <;> by_cases h2 : b = b' <;> by_cases h3 : c = c' <;> simp [h1, h2, h3]
theorem eqBk (x y : Bk) (w : World) : (binOp .eql 67 (.agg #[.int .i64 x.t, .int .i64 x.why, .int .u64 x.till]) (.agg #[.int .i64 y.t, .int .i64 y.why, .int .u64 y.till])).run Tryz.prog w = .ok (.bool (decide (x = y))) w := by
  rw [run_eql_struct, eqBkRaw]
  rfl
theorem TkRow.cellsY {w : World} {v : Value} {xs : List Tk} (h : TkRow w v xs) {i : Nat} {x : Tk} (hx : xs[i]? = some x) : ∃ g off cap, v = .slice (some ⟨g, off, none⟩) xs.length cap ∧ g < w.heap.size ∧
    w.cell? ⟨g, off + i * 8, none⟩ = some (.int .i64 x.t) ∧ w.cell? ⟨g, off + i * 8 + 1, none⟩ = some (.int .i64 x.calls) ∧ w.cell? ⟨g, off + i * 8 + 2, none⟩ = some (.int .i64 x.refused) ∧ w.cell? ⟨g, off + i * 8 + 3, none⟩ = some (.int .i64 x.steps) ∧ w.cell? ⟨g, off + i * 8 + 4, none⟩ = some (.int .i64 x.ended) ∧ w.cell? ⟨g, off + i * 8 + 5, none⟩ = some (.int .i64 x.failed) ∧ w.cell? ⟨g, off + i * 8 + 6, none⟩ = some (.int .i64 x.read) ∧ w.cell? ⟨g, off + i * 8 + 7, none⟩ = some (.int .i64 x.written) := by
  rcases h with ⟨rfl, _⟩ | ⟨g, off, cap, rfl, h1, h2⟩
  · simp at hx
  · exact ⟨g, off, cap, rfl, h1, h2 i x hx⟩
theorem CdRow.cellsY {w : World} {v : Value} {xs : List Cd} (h : CdRow w v xs) {i : Nat} {x : Cd} (hx : xs[i]? = some x) : ∃ g off cap, v = .slice (some ⟨g, off, none⟩) xs.length cap ∧ g < w.heap.size ∧
    w.cell? ⟨g, off + i * 3, none⟩ = some (.int .i64 x.call) ∧ w.cell? ⟨g, off + i * 3 + 1, none⟩ = some (.int .i64 x.err) ∧ w.cell? ⟨g, off + i * 3 + 2, none⟩ = some (.int .i64 x.n) := by
  rcases h with ⟨rfl, _⟩ | ⟨g, off, cap, rfl, h1, h2⟩
  · simp at hx
  · exact ⟨g, off, cap, rfl, h1, h2 i x hx⟩
theorem BkRow.cells {w : World} {v : Value} {xs : List Bk} (h : BkRow w v xs) {i : Nat} {x : Bk} (hx : xs[i]? = some x) : ∃ g off cap, v = .slice (some ⟨g, off, none⟩) xs.length cap ∧ g < w.heap.size ∧
    w.cell? ⟨g, off + i * 3, none⟩ = some (.int .i64 x.t) ∧ w.cell? ⟨g, off + i * 3 + 1, none⟩ = some (.int .i64 x.why) ∧ w.cell? ⟨g, off + i * 3 + 2, none⟩ = some (.int .u64 x.till) := by
  rcases h with ⟨rfl, _⟩ | ⟨g, off, cap, rfl, h1, h2⟩
  · simp at hx
  · exact ⟨g, off, cap, rfl, h1, h2 i x hx⟩
/-- What has been read fits to the lines. -/
def FitR {α : Type} (rd : List UInt8 → Option α) (L : List (List UInt8)) (n : Nat) (xs : List α) (line e : Int) : Prop :=
  (prefL rd L = L.length ∧ n = L.length ∧ line = 0 ∧ e = 0 ∧ ∀ (i : Nat) t, L[i]? = some t → ∃ x, rd t = some x ∧ xs[i]? = some x) ∨ (prefL rd L < L.length ∧ n = 0 ∧ line = (prefL rd L : Int) + 1 ∧ e = 6)
theorem fit_of {α : Type} (rd : List UInt8 → Option α) (L : List (List UInt8)) (h : L.length ≤ 1000) : FitR rd L (parseL rd L []).1.length (parseL rd L []).1 (parseL rd L []).2.1 (parseL rd L []).2.2 := by
  rcases parse_pref rd L [] (by simpa using h) with ⟨h1, xs, h2, h3, h4⟩ | ⟨h1, h2⟩
  · rw [h2]
    exact .inl ⟨h1, by simpa using h3, rfl, rfl, by simpa using h4⟩
  · rw [h2]
    exact .inr ⟨h1, rfl, by simp, rfl⟩
theorem pref_full {α : Type} (rd : List UInt8 → Option α) : ∀ (L : List (List UInt8)) (q : Nat), prefL rd L = L.length → q ≤ L.length → prefL rd (L.take q) = q
  | [], q, _, hq => by simp at hq; subst hq; rfl
  | t :: ts, 0, _, _ => rfl
  | t :: ts, q + 1, h, hq => by
    rw [List.take_succ_cons]
    rw [prefL] at h ⊢
    by_cases ht : (rd t).isSome = true
    · rw [if_pos ht] at h ⊢
      rw [pref_full rd ts q (by simp only [List.length_cons] at h; omega) (by simp only [List.length_cons] at hq; omega)]
    · rw [if_neg ht] at h
      simp at h
theorem lines_many : ∀ (l cur : List UInt8), (linesGo cur l).length ≤ l.length + 1
  | [], cur => by
    rw [linesGo]
    split <;> simp
  | b :: l, cur => by
    rw [linesGo]
    split
    · have := lines_many l []
      simp only [List.length_cons]
      omega
    · have := lines_many l (cur ++ [b])
      simp only [List.length_cons]
      omega
theorem reads_big (s : List UInt8) (hs : 500 < s.length) (w : World) (he : EnvR w) :
    Calls Tryz.prog 5 #[.string (bs s)] w fun e w' => e = .returned (.bool true) ∧ Fr [] w w' := by
  have HK := Lib.hid (known_any w he)
  have hsz : (bs s).size = s.length := bs_size s
  have h5 : (500 : Int) < (s.length : Int) := by omega
  clear he
  go_enter Tryz.func5, Tryz.ntmps5
  go_wp2_with fail
  refine HK.out.mono ?_
  rintro e w1 ⟨rfl, f1⟩
  go_wp2
  go_ret
  exact ⟨rfl, f1⟩
theorem fit_read {α : Type} {rd : List UInt8 → Option α} {L : List (List UInt8)} {n q : Nat} {xs : List α} {line e : Int} (h : FitR rd L n xs line e) (hq : L.length = q) : (prefL rd L = q ∧ n = q ∧ line = 0 ∧ e = 0) ∨ (prefL rd L < q ∧ n = 0 ∧ line = (prefL rd L : Int) + 1 ∧ e = 6) := by
  subst hq
  rcases h with ⟨h1, h2, h3, h4, _⟩ | h
  · exact .inl ⟨h1, h2, h3, h4⟩
  · exact .inr h
theorem reads_main (s : List UInt8) (hs : s.length ≤ 500) (w : World) (he : EnvR w) :
    Calls Tryz.prog 5 #[.string (bs s)] w fun e w' => e = .returned (.bool true) ∧ Fr [] w w' := by
  have HE := Lib.hid he
  have hsz : (bs s).size = s.length := bs_size s
  have h5 : ¬ (500 : Int) < (s.length : Int) := by omega
  have HRT := Lib.hid (ReadTasks_any s (by omega) w he)
  have HRC := Lib.hid (fun W (f : Fr [] w W) => ReadCodes_any s (by omega) W (he.new f))
  have HRB := Lib.hid (fun W (f : Fr [] w W) => ReadBlocked_any s (by omega) W (he.new f))
  have HPA := Lib.hid (fun W => partsL_any s (by omega) W)
  have HLM := Lib.hid (fun x (hx : x ∈ linesGo [] s) => (show x.length ≤ 100000 from by have := lines_len s [] x hx; simp only [List.length_nil] at this; omega))
  have hlm := lines_many s []
  have HF1 := Lib.hid (fit_of (rdOf (fun t => tkRead (splitS (remB t))) Tk.ok taskB) (linesGo [] s) (by omega))
  have HF2 := Lib.hid (fit_of (rdOf (fun t => cdRead (splitS t)) Cd.ok cdB) (linesGo [] s) (by omega))
  have HF3 := Lib.hid (fit_of (rdOf (fun t => bkRead (splitS t)) Bk.ok bkB) (linesGo [] s) (by omega))
  unfold rdTasks at HRT
  unfold rdCodes at HRC
  unfold rdBlocked at HRB
  have HD1 := Lib.hid (fun t => lawT_eq t)
  have HD2 := Lib.hid (fun t => lawC_eq t)
  have HD3 := Lib.hid (fun t => lawK_eq t)
  obtain ⟨rd1, h1⟩ : ∃ r, rdOf (fun t => tkRead (splitS (remB t))) Tk.ok taskB = r := ⟨_, rfl⟩
  obtain ⟨rd2, h2⟩ : ∃ r, rdOf (fun t => cdRead (splitS t)) Cd.ok cdB = r := ⟨_, rfl⟩
  obtain ⟨rd3, h3⟩ : ∃ r, rdOf (fun t => bkRead (splitS t)) Bk.ok bkB = r := ⟨_, rfl⟩
  rw [h1] at HRT HF1 HD1
  simp only [h2] at HRC HF2 HD2
  simp only [h3] at HRB HF3 HD3
  obtain ⟨L, hL⟩ : ∃ L, linesGo [] s = L := ⟨_, rfl⟩
  rw [hL] at HRT HF1 HF2 HF3 HLM hlm
  simp only [hL] at HRC HRB HPA
  obtain ⟨⟨xa, l1, e1⟩, hy1⟩ : ∃ y, parseL rd1 L [] = y := ⟨_, rfl⟩
  obtain ⟨⟨xb, l2, e2⟩, hy2⟩ : ∃ y, parseL rd2 L [] = y := ⟨_, rfl⟩
  obtain ⟨⟨xc, l3, e3⟩, hy3⟩ : ∃ y, parseL rd3 L [] = y := ⟨_, rfl⟩
  rw [hy1] at HRT HF1
  rw [hy2] at HF2
  simp only [hy2] at HRC
  rw [hy3] at HF3
  simp only [hy3] at HRB
  simp only at HF1 HF2 HF3
  obtain ⟨n1, hn1⟩ : ∃ n, xa.length = n := ⟨_, rfl⟩
  obtain ⟨n2, hn2⟩ : ∃ n, xb.length = n := ⟨_, rfl⟩
  obtain ⟨n3, hn3⟩ : ∃ n, xc.length = n := ⟨_, rfl⟩
  rw [hn1] at HF1
  rw [hn2] at HF2
  rw [hn3] at HF3
  have M1 := Lib.hid hn1
  have M2 := Lib.hid hn2
  have M3 := Lib.hid hn3
  obtain ⟨m, hm⟩ : ∃ m, L.length = m := ⟨_, rfl⟩
  have ML := Lib.hid hm
  rw [hm] at hlm
  have hm5 : (m : Int) ≤ 501 := by omega
  clear he h1 h2 h3 hL hy1 hy2 hy3 hn1 hn2 hn3 hm hlm
  go_enter Tryz.func5, Tryz.ntmps5
  go_wp2_with fail
  refine HRT.out.mono ?_
  rintro e w1 ⟨v1, rfl, r1, f1⟩
  simp only at r1 ⊢
  obtain ⟨a1, c1, rfl⟩ := r1.val
  rw [M1.out] at r1 ⊢
  have R1 := Lib.hid r1
  have F1 := Lib.hid f1
  clear r1 f1 HRT
  go_wp2_with fail
  refine (HRC.out _ F1.out).mono ?_
  rintro e w2 ⟨v2, rfl, r2, f2⟩
  simp only at r2 ⊢
  obtain ⟨a2, c2, rfl⟩ := r2.val
  rw [M2.out] at r2 ⊢
  have R2 := Lib.hid r2
  have G2 := Lib.hid f2
  have F2 := Lib.hid (F1.out.step f2)
  clear r2 f2 HRC
  go_wp2_with fail
  refine (HRB.out _ F2.out).mono ?_
  rintro e w3 ⟨v3, rfl, r3, f3⟩
  simp only at r3 ⊢
  obtain ⟨a3, c3, rfl⟩ := r3.val
  rw [M3.out] at r3 ⊢
  have R3 := Lib.hid r3
  have G3 := Lib.hid f3
  have F3 := Lib.hid (F2.out.step f3)
  clear r3 f3 HRB
  go_wp2_with fail
  refine (HPA.out _).mono ?_
  rintro e w4 ⟨v4, rfl, sr, f4⟩
  obtain ⟨a4, c4, rfl⟩ := sr.val
  rw [ML.out] at sr ⊢
  have R4 := Lib.hid sr
  have F4 := Lib.hid (F3.out.step f4)
  have R1' := Lib.hid ((R1.out.new G2.out).new (G3.out.step f4))
  have R2' := Lib.hid (R2.out.new (G3.out.step f4))
  have R3' := Lib.hid (R3.out.new f4)
  clear sr f4 HPA R1 R2 R3 G2 G3 F1 F2 F3
  go_wp2
  go_loopw [13, 14, 15, 16] (fun s13 s14 s15 i wr => ∃ (wz : World) (q : Nat), wz = wr ∧ i = .int .i64 q ∧ q ≤ m ∧ s13 = .int .i64 (prefL rd1 (L.take q)) ∧ s14 = .int .i64 (prefL rd2 (L.take q)) ∧ s15 = .int .i64 (prefL rd3 (L.take q)) ∧ Fr [] w4 wr) (fun _ _ _ i _ => m - (intOf i).toNat)
  case atStart => exact ⟨_, 0, rfl, rfl, by omega, rfl, rfl, rfl, Fr.refl _ _⟩
  case round =>
    obtain ⟨wr, q, hwz, rfl, hq, rfl, rfl, rfl, hF⟩ := hrel
    subst hwz
    have HF := Lib.hid hF
    clear hF
    by_cases hlt : q < m
    · have hlt' : (q : Int) < (m : Int) := by omega
      have hx := List.getElem?_eq_getElem (l := L) (i := q) (by rw [ML.out]; exact hlt)
      obtain ⟨t, hte⟩ : ∃ t, L[q]'(by rw [ML.out]; exact hlt) = t := ⟨_, rfl⟩
      rw [hte] at hx
      have HTL := Lib.hid (HLM.out t (List.mem_of_getElem? hx))
      have P1 := Lib.hid (pref_take rd1 L q t hx)
      have P2 := Lib.hid (pref_take rd2 L q t hx)
      have P3 := Lib.hid (pref_take rd3 L q t hx)
      have hb1 := pref_le rd1 (L.take q)
      have hb2 := pref_le rd2 (L.take q)
      have hb3 := pref_le rd3 (L.take q)
      have htl : (L.take q).length = q := by rw [List.length_take, ML.out]; omega
      rw [htl] at hb1 hb2 hb3
      obtain ⟨g4, hg4, hc4⟩ : ∃ g, a4 = some ⟨g, 0, none⟩ ∧ w4.cell? ⟨g, q, none⟩ = some (.string (bs t)) := by
        rcases R4.out.2 with ⟨h1, _⟩ | ⟨g, cap, cur, h1, _⟩
        · cases h1
          omega
        · simp only [Value.slice.injEq] at h1
          refine ⟨g, h1.1, ?_⟩
          have := R4.out.cells (by rw [h1.1]) q t hx
          rwa [Nat.zero_add] at this
      subst hg4
      have HC4 := Lib.hid hc4
      have HX := Lib.hid hx
      have PF1 := Lib.hid (fun h => pref_full rd1 L q h (by rw [ML.out]; exact hq))
      have PF2 := Lib.hid (fun h => pref_full rd2 L q h (by rw [ML.out]; exact hq))
      have PF3 := Lib.hid (fun h => pref_full rd3 L q h (by rw [ML.out]; exact hq))
      obtain ⟨p1, hp1⟩ : ∃ p, prefL rd1 (L.take q) = p := ⟨_, rfl⟩
      obtain ⟨p2, hp2⟩ : ∃ p, prefL rd2 (L.take q) = p := ⟨_, rfl⟩
      obtain ⟨p3, hp3⟩ : ∃ p, prefL rd3 (L.take q) = p := ⟨_, rfl⟩
      rw [hp1] at P1 hb1 PF1
      rw [hp2] at P2 hb2 PF2
      rw [hp3] at P3 hb3 PF3
      rw [hp1, hp2, hp3]
      clear hx hte htl hc4 hp1 hp2 hp3
      have cc1 := HF.out.keep HC4.out (by simp)
      go_wp2_with fail
      refine (readTaskL_any t HTL.out wr).mono ?_
      rintro e u1 ⟨rfl, fu1⟩
      have HX1 := Lib.hid (show (rd1 t).isSome = tkF t ∧ ∀ x, rd1 t = some x → x = tkL t from by
        rw [← HD1.out t]
        unfold lawT tkF
        by_cases h : (tkL t).ok = true ∧ taskB (tkL t) = t
        · rw [if_pos h, decide_eq_true h]
          exact ⟨rfl, fun x hx => (Option.some.inj hx).symm⟩
        · rw [if_neg h, decide_eq_false h]
          exact ⟨rfl, fun x hx => by cases hx⟩)
      obtain ⟨is1, his1⟩ : ∃ b, tkF t = b := ⟨_, rfl⟩
      rw [his1] at HX1 ⊢
      obtain ⟨X1, hX1⟩ : ∃ x, tkL t = x := ⟨_, rfl⟩
      rw [hX1] at HX1 ⊢
      clear his1 hX1 cc1
      unfold tkV
      obtain ⟨y0, y1, y2, y3, y4, y5, y6, y7⟩ := X1
      simp only
      obtain ⟨z1, hz1⟩ : ∃ z, u1.alloc (.cells #[.int .i64 y0, .int .i64 y1, .int .i64 y2, .int .i64 y3, .int .i64 y4, .int .i64 y5, .int .i64 y6, .int .i64 y7] 58) = z := ⟨_, rfl⟩
      have hat1 : ∀ j u, (#[.int .i64 y0, .int .i64 y1, .int .i64 y2, .int .i64 y3, .int .i64 y4, .int .i64 y5, .int .i64 y6, .int .i64 y7] : Array Value).toList[j]? = some u → z1.cell? ⟨u1.heap.size, j, none⟩ = some u := fun j u hj => by rw [← hz1]; simpa using hj
      have fz1 : Fr [] u1 z1 := by rw [← hz1]; exact (Fr.refl [] _).alloc _
      have HY1 := Lib.hid (HF.out.step (fu1.step fz1))
      go_upto_region 12 with fail
      try rw [hz1]
      obtain ⟨B1, hB1⟩ : ∃ B, u1.heap.size = B := ⟨_, rfl⟩
      rw [hB1] at hat1
      simp only [hB1]
      have k0 := hat1 0 _ rfl
      have k1 := hat1 1 _ rfl
      have k2 := hat1 2 _ rfl
      have k3 := hat1 3 _ rfl
      have k4 := hat1 4 _ rfl
      have k5 := hat1 5 _ rfl
      have k6 := hat1 6 _ rfl
      have k7 := hat1 7 _ rfl
      clear hz1 hB1 hat1 fz1 fu1
      go_cut [82] from 59 to 82 (fun s wz => s = .bool (decide (p1 = q) && is1) ∧ Fr [] z1 wz)
      case first =>
        by_cases hpq : p1 = q
        · have hpi : (p1 : Int) = (q : Int) := by omega
          have dp := decide_eq_true hpi
          have bp : ((p1 : Int) == (q : Int)) = true := beq_iff_eq.2 hpi
          have HV := Lib.hid (show (decide (p1 = q) && is1) = is1 from by rw [decide_eq_true hpq]; rfl)
          clear hpq
          cases is1 with
          | false =>
            go_quiet (fail)
            go_wp2
            go_meet
            exact ⟨by rw [HV.out], (Fr.refl _ _).drewN _⟩
          | true =>
            rcases HF1.out with ⟨hg1, hg2, hg3, hg4, hg5⟩ | ⟨hg1, hg2, hg3, hg4⟩
            · obtain ⟨x, hx1, hx2⟩ := hg5 q t HX.out
              have hxx := HX1.out.2 x hx1
              subst hxx
              obtain ⟨gm, om, cm, hvm, hgm, m0, m1, m2, m3, m4, m5, m6, m7⟩ := (R1'.out.new HY1.out).cellsY hx2
              rw [M1.out] at hvm
              simp only [Value.slice.injEq] at hvm
              obtain ⟨rfl, _, rfl⟩ := hvm
              have hql : (q : Int) < (n1 : Int) := by rw [ML.out] at hg2; omega
              have dql := decide_eq_true hql
              have heq : ∀ W, (binOp .eql 58 (.agg #[.int .i64 y0, .int .i64 y1, .int .i64 y2, .int .i64 y3, .int .i64 y4, .int .i64 y5, .int .i64 y6, .int .i64 y7]) (.agg #[.int .i64 y0, .int .i64 y1, .int .i64 y2, .int .i64 y3, .int .i64 y4, .int .i64 y5, .int .i64 y6, .int .i64 y7])).run Tryz.prog W = .ok (.bool true) W := fun W => by
                have h := eqTk ⟨y0, y1, y2, y3, y4, y5, y6, y7⟩ ⟨y0, y1, y2, y3, y4, y5, y6, y7⟩ W
                simp only at h
                rw [h]
                simp
              have be : (e1 != 0) = false := by rw [hg4]; rfl
              subst hg4
              simp only at m0 m1 m2 m3 m4 m5 m6 m7
              clear hg1 hg2 hg3 hg5 hx1 hx2 hgm
              go_quiet (fail)
              go_wp2
              go_meet
              exact ⟨by rw [HV.out], (Fr.refl _ _).drewN _⟩
            · subst hg4
              go_quiet (fail)
              go_wp2
              go_meet
              exact ⟨by rw [HV.out], (Fr.refl _ _).drewN _⟩
        · have hpi : ¬ (p1 : Int) = (q : Int) := by omega
          have dp := decide_eq_false hpi
          have bp : ((p1 : Int) == (q : Int)) = false := beq_eq_false_iff_ne.2 hpi
          have HV := Lib.hid (show (decide (p1 = q) && is1) = false from by rw [decide_eq_false hpq]; rfl)
          clear hpq
          go_quiet (fail)
          go_wp2
          go_meet
          exact ⟨by rw [HV.out], (Fr.refl _ _).drewN _⟩
      case rest =>
      obtain ⟨rfl, hfc⟩ := hcut
      clear k0 k1 k2 k3 k4 k5 k6 k7
      obtain ⟨x1, rfl⟩ : ∃ z, z = wc := ⟨wc, rfl⟩
      have HG1 := Lib.hid (HY1.out.step hfc)
      clear hfc
      obtain ⟨b1, hb1d⟩ : ∃ b, (decide (p1 = q) && is1) = b := ⟨_, rfl⟩
      rw [hb1d]
      have HPN1 := Lib.hid (show prefL rd1 (L.take (q + 1)) = if b1 = true then p1 + 1 else p1 from by
        rw [P1.out, HX1.out.1, ← hb1d]
        by_cases h : p1 = q
        · rw [decide_eq_true h, Bool.true_and]
          cases is1
          · simp
          · simp [h]
        · rw [decide_eq_false h]
          simp [h])
      clear hb1d
      go_upto_if 82 with fail
      go_cut [13] from 82 to 84 (fun s wz => s = .int .i64 (prefL rd1 (L.take (q + 1))) ∧ wz = x1)
      case first =>
        cases b1 with
        | false =>
          go_wp2
          go_meet
          exact ⟨by rw [HPN1.out]; rfl, rfl⟩
        | true =>
          go_wp2
          go_meet
          exact ⟨by rw [HPN1.out]; rfl, rfl⟩
      case rest =>
      obtain ⟨rfl, hwc⟩ := hcut
      subst wc
      have cc2 := HG1.out.keep HC4.out (by simp)
      go_wp2_with fail
      refine (readCodeL_any t HTL.out x1).mono ?_
      rintro e u2 ⟨rfl, fu2⟩
      have HX2 := Lib.hid (show (rd2 t).isSome = cdF t ∧ ∀ x, rd2 t = some x → x = cdL t from by
        rw [← HD2.out t]
        unfold lawC cdF
        by_cases h : (cdL t).ok = true ∧ cdB (cdL t) = t
        · rw [if_pos h, decide_eq_true h]
          exact ⟨rfl, fun x hx => (Option.some.inj hx).symm⟩
        · rw [if_neg h, decide_eq_false h]
          exact ⟨rfl, fun x hx => by cases hx⟩)
      obtain ⟨is2, his2⟩ : ∃ b, cdF t = b := ⟨_, rfl⟩
      rw [his2] at HX2 ⊢
      obtain ⟨X2, hX2⟩ : ∃ x, cdL t = x := ⟨_, rfl⟩
      rw [hX2] at HX2 ⊢
      clear his2 hX2 cc2
      unfold cdV
      obtain ⟨y0, y1, y2⟩ := X2
      simp only
      obtain ⟨z2, hz2⟩ : ∃ z, u2.alloc (.cells #[.int .i64 y0, .int .i64 y1, .int .i64 y2] 62) = z := ⟨_, rfl⟩
      have hat2 : ∀ j u, (#[.int .i64 y0, .int .i64 y1, .int .i64 y2] : Array Value).toList[j]? = some u → z2.cell? ⟨u2.heap.size, j, none⟩ = some u := fun j u hj => by rw [← hz2]; simpa using hj
      have fz2 : Fr [] u2 z2 := by rw [← hz2]; exact (Fr.refl [] _).alloc _
      have HY2 := Lib.hid (HG1.out.step (fu2.step fz2))
      go_upto_region 15 with fail
      try rw [hz2]
      obtain ⟨B2, hB2⟩ : ∃ B, u2.heap.size = B := ⟨_, rfl⟩
      rw [hB2] at hat2
      simp only [hB2]
      have k0 := hat2 0 _ rfl
      have k1 := hat2 1 _ rfl
      have k2 := hat2 2 _ rfl
      clear hz2 hB2 hat2 fz2 fu2
      go_cut [116] from 93 to 116 (fun s wz => s = .bool (decide (p2 = q) && is2) ∧ Fr [] z2 wz)
      case first =>
        by_cases hpq : p2 = q
        · have hpi : (p2 : Int) = (q : Int) := by omega
          have dp := decide_eq_true hpi
          have bp : ((p2 : Int) == (q : Int)) = true := beq_iff_eq.2 hpi
          have HV := Lib.hid (show (decide (p2 = q) && is2) = is2 from by rw [decide_eq_true hpq]; rfl)
          clear hpq
          cases is2 with
          | false =>
            go_quiet (fail)
            go_wp2
            go_meet
            exact ⟨by rw [HV.out], (Fr.refl _ _).drewN _⟩
          | true =>
            rcases HF2.out with ⟨hg1, hg2, hg3, hg4, hg5⟩ | ⟨hg1, hg2, hg3, hg4⟩
            · obtain ⟨x, hx1, hx2⟩ := hg5 q t HX.out
              have hxx := HX2.out.2 x hx1
              subst hxx
              obtain ⟨gm, om, cm, hvm, hgm, m0, m1, m2⟩ := (R2'.out.new HY2.out).cellsY hx2
              rw [M2.out] at hvm
              simp only [Value.slice.injEq] at hvm
              obtain ⟨rfl, _, rfl⟩ := hvm
              have hql : (q : Int) < (n2 : Int) := by rw [ML.out] at hg2; omega
              have dql := decide_eq_true hql
              have heq : ∀ W, (binOp .eql 62 (.agg #[.int .i64 y0, .int .i64 y1, .int .i64 y2]) (.agg #[.int .i64 y0, .int .i64 y1, .int .i64 y2])).run Tryz.prog W = .ok (.bool true) W := fun W => by
                have h := eqCd ⟨y0, y1, y2⟩ ⟨y0, y1, y2⟩ W
                simp only at h
                rw [h]
                simp
              have be : (e2 != 0) = false := by rw [hg4]; rfl
              subst hg4
              simp only at m0 m1 m2
              clear hg1 hg2 hg3 hg5 hx1 hx2 hgm
              go_quiet (fail)
              go_wp2
              go_meet
              exact ⟨by rw [HV.out], (Fr.refl _ _).drewN _⟩
            · subst hg4
              go_quiet (fail)
              go_wp2
              go_meet
              exact ⟨by rw [HV.out], (Fr.refl _ _).drewN _⟩
        · have hpi : ¬ (p2 : Int) = (q : Int) := by omega
          have dp := decide_eq_false hpi
          have bp : ((p2 : Int) == (q : Int)) = false := beq_eq_false_iff_ne.2 hpi
          have HV := Lib.hid (show (decide (p2 = q) && is2) = false from by rw [decide_eq_false hpq]; rfl)
          clear hpq
          go_quiet (fail)
          go_wp2
          go_meet
          exact ⟨by rw [HV.out], (Fr.refl _ _).drewN _⟩
      case rest =>
      obtain ⟨rfl, hfc⟩ := hcut
      clear k0 k1 k2
      obtain ⟨x2, rfl⟩ : ∃ z, z = wc := ⟨wc, rfl⟩
      have HG2 := Lib.hid (HY2.out.step hfc)
      clear hfc
      obtain ⟨b2, hb2d⟩ : ∃ b, (decide (p2 = q) && is2) = b := ⟨_, rfl⟩
      rw [hb2d]
      have HPN2 := Lib.hid (show prefL rd2 (L.take (q + 1)) = if b2 = true then p2 + 1 else p2 from by
        rw [P2.out, HX2.out.1, ← hb2d]
        by_cases h : p2 = q
        · rw [decide_eq_true h, Bool.true_and]
          cases is2
          · simp
          · simp [h]
        · rw [decide_eq_false h]
          simp [h])
      clear hb2d
      go_upto_if 116 with fail
      go_cut [14] from 116 to 118 (fun s wz => s = .int .i64 (prefL rd2 (L.take (q + 1))) ∧ wz = x2)
      case first =>
        cases b2 with
        | false =>
          go_wp2
          go_meet
          exact ⟨by rw [HPN2.out]; rfl, rfl⟩
        | true =>
          go_wp2
          go_meet
          exact ⟨by rw [HPN2.out]; rfl, rfl⟩
      case rest =>
      obtain ⟨rfl, hwc⟩ := hcut
      subst wc
      have cc3 := HG2.out.keep HC4.out (by simp)
      go_wp2_with fail
      refine (readBlockedL_any t HTL.out x2).mono ?_
      rintro e u3 ⟨rfl, fu3⟩
      have HX3 := Lib.hid (show (rd3 t).isSome = bkF t ∧ ∀ x, rd3 t = some x → x = bkLw t from by
        rw [← HD3.out t]
        unfold lawK bkF
        by_cases h : (bkLw t).ok = true ∧ bkB (bkLw t) = t
        · rw [if_pos h, decide_eq_true h]
          exact ⟨rfl, fun x hx => (Option.some.inj hx).symm⟩
        · rw [if_neg h, decide_eq_false h]
          exact ⟨rfl, fun x hx => by cases hx⟩)
      obtain ⟨is3, his3⟩ : ∃ b, bkF t = b := ⟨_, rfl⟩
      rw [his3] at HX3 ⊢
      obtain ⟨X3, hX3⟩ : ∃ x, bkLw t = x := ⟨_, rfl⟩
      rw [hX3] at HX3 ⊢
      clear his3 hX3 cc3
      unfold bkV
      obtain ⟨y0, y1, y2⟩ := X3
      simp only
      obtain ⟨z3, hz3⟩ : ∃ z, u3.alloc (.cells #[.int .i64 y0, .int .i64 y1, .int .u64 y2] 67) = z := ⟨_, rfl⟩
      have hat3 : ∀ j u, (#[.int .i64 y0, .int .i64 y1, .int .u64 y2] : Array Value).toList[j]? = some u → z3.cell? ⟨u3.heap.size, j, none⟩ = some u := fun j u hj => by rw [← hz3]; simpa using hj
      have fz3 : Fr [] u3 z3 := by rw [← hz3]; exact (Fr.refl [] _).alloc _
      have HY3 := Lib.hid (HG2.out.step (fu3.step fz3))
      go_upto_region 18 with fail
      try rw [hz3]
      obtain ⟨B3, hB3⟩ : ∃ B, u3.heap.size = B := ⟨_, rfl⟩
      rw [hB3] at hat3
      simp only [hB3]
      have k0 := hat3 0 _ rfl
      have k1 := hat3 1 _ rfl
      have k2 := hat3 2 _ rfl
      clear hz3 hB3 hat3 fz3 fu3
      go_cut [150] from 127 to 150 (fun s wz => s = .bool (decide (p3 = q) && is3) ∧ Fr [] z3 wz)
      case first =>
        by_cases hpq : p3 = q
        · have hpi : (p3 : Int) = (q : Int) := by omega
          have dp := decide_eq_true hpi
          have bp : ((p3 : Int) == (q : Int)) = true := beq_iff_eq.2 hpi
          have HV := Lib.hid (show (decide (p3 = q) && is3) = is3 from by rw [decide_eq_true hpq]; rfl)
          clear hpq
          cases is3 with
          | false =>
            go_quiet (fail)
            go_wp2
            go_meet
            exact ⟨by rw [HV.out], (Fr.refl _ _).drewN _⟩
          | true =>
            rcases HF3.out with ⟨hg1, hg2, hg3, hg4, hg5⟩ | ⟨hg1, hg2, hg3, hg4⟩
            · obtain ⟨x, hx1, hx2⟩ := hg5 q t HX.out
              have hxx := HX3.out.2 x hx1
              subst hxx
              obtain ⟨gm, om, cm, hvm, hgm, m0, m1, m2⟩ := (R3'.out.new HY3.out).cells hx2
              rw [M3.out] at hvm
              simp only [Value.slice.injEq] at hvm
              obtain ⟨rfl, _, rfl⟩ := hvm
              have hql : (q : Int) < (n3 : Int) := by rw [ML.out] at hg2; omega
              have dql := decide_eq_true hql
              have heq : ∀ W, (binOp .eql 67 (.agg #[.int .i64 y0, .int .i64 y1, .int .u64 y2]) (.agg #[.int .i64 y0, .int .i64 y1, .int .u64 y2])).run Tryz.prog W = .ok (.bool true) W := fun W => by
                have h := eqBk ⟨y0, y1, y2⟩ ⟨y0, y1, y2⟩ W
                simp only at h
                rw [h]
                simp
              have be : (e3 != 0) = false := by rw [hg4]; rfl
              subst hg4
              simp only at m0 m1 m2
              clear hg1 hg2 hg3 hg5 hx1 hx2 hgm
              go_quiet (fail)
              go_wp2
              go_meet
              exact ⟨by rw [HV.out], (Fr.refl _ _).drewN _⟩
            · subst hg4
              go_quiet (fail)
              go_wp2
              go_meet
              exact ⟨by rw [HV.out], (Fr.refl _ _).drewN _⟩
        · have hpi : ¬ (p3 : Int) = (q : Int) := by omega
          have dp := decide_eq_false hpi
          have bp : ((p3 : Int) == (q : Int)) = false := beq_eq_false_iff_ne.2 hpi
          have HV := Lib.hid (show (decide (p3 = q) && is3) = false from by rw [decide_eq_false hpq]; rfl)
          clear hpq
          go_quiet (fail)
          go_wp2
          go_meet
          exact ⟨by rw [HV.out], (Fr.refl _ _).drewN _⟩
      case rest =>
      obtain ⟨rfl, hfc⟩ := hcut
      clear k0 k1 k2
      obtain ⟨x3, rfl⟩ : ∃ z, z = wc := ⟨wc, rfl⟩
      have HG3 := Lib.hid (HY3.out.step hfc)
      clear hfc
      obtain ⟨b3, hb3d⟩ : ∃ b, (decide (p3 = q) && is3) = b := ⟨_, rfl⟩
      rw [hb3d]
      have HPN3 := Lib.hid (show prefL rd3 (L.take (q + 1)) = if b3 = true then p3 + 1 else p3 from by
        rw [P3.out, HX3.out.1, ← hb3d]
        by_cases h : p3 = q
        · rw [decide_eq_true h, Bool.true_and]
          cases is3
          · simp
          · simp [h]
        · rw [decide_eq_false h]
          simp [h])
      clear hb3d
      cases b3 with
      | false =>
        go_wp2
        go_roundw
        case rel => exact ⟨_, q + 1, rfl, by go_num, by omega, rfl, rfl, by rw [HPN3.out]; rfl, HG3.out⟩
        case measure => simp [intOf]; omega
      | true =>
        go_wp2
        go_roundw
        case rel => exact ⟨_, q + 1, rfl, by go_num, by omega, rfl, rfl, by rw [HPN3.out]; rfl, HG3.out⟩
        case measure => simp [intOf]; omega
    · have hqn : q = m := by omega
      subst hqn
      have hful : L.take q = L := List.take_of_length_le (by rw [ML.out]; exact Nat.le_refl _)
      rw [hful]
      have HZ := Lib.hid (F4.out.step HF.out)
      have HKN := Lib.hid (known_any wr (HE.out.new HZ.out))
      have hq5 : q ≤ 1000 := by omega
      have K1 := Lib.hid (readR_any q (prefL rd1 L) n1 l1 e1 hq5 (by have := pref_le rd1 L; rw [ML.out] at this; exact this) (fit_read HF1.out ML.out) wr)
      have K2 := Lib.hid (readR_any q (prefL rd2 L) n2 l2 e2 hq5 (by have := pref_le rd2 L; rw [ML.out] at this; exact this) (fit_read HF2.out ML.out) wr)
      have K3 := Lib.hid (readR_any q (prefL rd3 L) n3 l3 e3 hq5 (by have := pref_le rd3 L; rw [ML.out] at this; exact this) (fit_read HF3.out ML.out) wr)
      go_wp2_with fail
      refine K1.out.mono ?_
      rintro e w' ⟨rfl, hw'⟩
      subst hw'
      go_wp2_with fail
      refine K2.out.mono ?_
      rintro e w' ⟨rfl, hw'⟩
      subst hw'
      go_wp2_with fail
      refine K3.out.mono ?_
      rintro e w' ⟨rfl, hw'⟩
      subst hw'
      go_wp2_with fail
      refine HKN.out.mono ?_
      rintro e w9 ⟨rfl, f9⟩
      go_wp2
      go_ret
      exact ⟨rfl, HZ.out.step f9⟩
end Go.Proofs.YtllmejkcohfbiaaGreatDoor
