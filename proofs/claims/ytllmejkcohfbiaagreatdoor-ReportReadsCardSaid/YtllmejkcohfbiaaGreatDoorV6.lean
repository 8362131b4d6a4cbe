/- Plain: what is written is read again (tasks, codes); whole texts; the ends of all tasks. -/
/- Report: what a task has done, read (taskRead). -/
/- Report: lines at api.TaskCount, walked. -/
/- Report: ReadTasks. -/
import Derived.Test.YtllmejkcohfbiaaGreatDoorS7
import Derived.Test.YtllmejkcohfbiaaGreatDoorVS
import Derived.Test.YtllmejkcohfbiaaGreatDoorU0
import Derived.Test.YtllmejkcohfbiaaGreatDoorT3
import Derived.Test.YtllmejkcohfbiaaGreatDoorR20
import Derived.Test.YtllmejkcohfbiaaGreatDoorR18Tk
namespace Go.Proofs.YtllmejkcohfbiaaGreatDoor
open Go.RowKit Go.Shelf Go.Sort Go.Lib
set_option linter.unusedVariables false
set_option linter.unusedSimpArgs false
set_option maxRecDepth 100000
set_option maxHeartbeats 4000000

theorem valB_itoa (n : Int) (h : I64 n) : valB (Lib.itoa n) = n := by
  unfold I64 at h
  by_cases h0 : n < 0
  · obtain ⟨u, rfl⟩ : ∃ u : Nat, n = -(u : Int) := ⟨n.natAbs, by omega⟩
    rw [Lib.itoa_neg u (by omega)]
    have hp : Lib.parseMag (Lib.decDigits u) = .ok u := by
      unfold Lib.parseMag
      rw [if_neg (decDigits_nil u)]
      have := parse10_fold (Lib.decDigits u) 0 (decDigits_dig u) (by have := dval_decDigits u; unfold dval at this; omega)
      have e := dval_decDigits u
      unfold dval at e
      rw [e] at this
      exact this
    have ht : (45 : UInt8).toNat = 45 := rfl
    unfold valB Lib.atoiAll
    simp only [ht, or_true, if_true, hp, not_true, false_and, if_false, true_and]
    rw [if_neg (by omega)]
  · obtain ⟨u, rfl⟩ : ∃ u : Nat, n = u := ⟨n.toNat, by omega⟩
    rw [Lib.itoa_nonneg, valB_dec u (by omega)]
theorem itoa_ch (n : Int) : ∀ c ∈ Lib.itoa n, c = 45 ∨ isDig c := by
  intro c hc
  unfold Lib.itoa at hc
  split at hc
  · rcases List.mem_cons.1 hc with rfl | hc
    · exact .inl rfl
    · exact .inr (decDigits_dig _ c hc)
  · exact .inr (decDigits_dig _ c hc)
theorem itoa_no (n : Int) (c : UInt8) (h1 : c ≠ 45) (h2 : ¬ isDig c) : c ∉ Lib.itoa n := fun h => by
  rcases itoa_ch n c h with h | h
  · exact h1 h
  · exact h2 h
theorem remB_itoa (n : Int) : remB (Lib.itoa n) = Lib.itoa n := by
  unfold remB
  rw [List.filter_eq_self]
  intro c hc
  have h1 : c ≠ 44 := fun e => itoa_no n 44 (by decide) (by unfold isDig; decide) (e ▸ hc)
  have h2 : c ≠ 58 := fun e => itoa_no n 58 (by decide) (by unfold isDig; decide) (e ▸ hc)
  simp [delB, h1, h2]
def tkRead (ws : List (List UInt8)) : Tk := ⟨valB (ws.getD 1 []), valB (ws.getD 3 []), valB (ws.getD 5 []), valB (ws.getD 7 []), valB (ws.getD 9 []), valB (ws.getD 11 []), valB (ws.getD 13 []), valB (ws.getD 15 [])⟩
/-- The words of what a task has done. -/
def tkWds (x : Tk) : List (List UInt8) := [[116, 97, 115, 107], Lib.itoa x.t, [99, 97, 108, 108, 115], Lib.itoa x.calls, [114, 101, 102, 117, 115, 101, 100], Lib.itoa x.refused, [115, 116, 101, 112, 115], Lib.itoa x.steps, [101, 110, 100, 101, 100], Lib.itoa x.ended, [102, 97, 105, 108, 101, 100], Lib.itoa x.failed, [114, 101, 97, 100], Lib.itoa x.read, [119, 114, 105, 116, 116, 101, 110], Lib.itoa x.written]
/-- Its line without the line feed, spelled out. -/
def tkBody (x : Tk) : List UInt8 := [116, 97, 115, 107] ++ ([32] ++ (Lib.itoa x.t ++ ([58, 32] ++ ([99, 97, 108, 108, 115] ++ ([32] ++ (Lib.itoa x.calls ++ ([44, 32] ++ ([114, 101, 102, 117, 115, 101, 100] ++ ([32] ++ (Lib.itoa x.refused ++ ([44, 32] ++ ([115, 116, 101, 112, 115] ++ ([32] ++ (Lib.itoa x.steps ++ ([44, 32] ++ ([101, 110, 100, 101, 100] ++ ([32] ++ (Lib.itoa x.ended ++ ([44, 32] ++ ([102, 97, 105, 108, 101, 100] ++ ([32] ++ (Lib.itoa x.failed ++ ([44, 32] ++ ([114, 101, 97, 100] ++ ([32] ++ (Lib.itoa x.read ++ ([44, 32] ++ ([119, 114, 105, 116, 116, 101, 110] ++ ([32] ++ (Lib.itoa x.written))))))))))))))))))))))))))))))
theorem taskB_body (x : Tk) : taskB x = tkBody x ++ [10] := by
  have h7 : List.range 7 = [0, 1, 2, 3, 4, 5, 6] := rfl
  unfold taskB tkBody
  simp [h7, Lib.join_cons, Lib.joinTail, partWs, Tk.nums]
theorem remB_body (x : Tk) : remB (tkBody x) = Lib.join (tkWds x) [32] := by
  have h1 : remB [32] = [32] := rfl
  have h2 : remB [44, 32] = [32] := rfl
  have h3 : remB [58, 32] = [32] := rfl
  unfold tkBody tkWds
  simp only [remB_app, remB_itoa, h1, h2, h3]
  simp [Lib.join_cons, Lib.joinTail, remB, delB]
theorem tkWds_no (x : Tk) : ∀ y ∈ tkWds x, 32 ∉ y := by
  have hi : ∀ n, (32 : UInt8) ∉ Lib.itoa n := fun n => itoa_no n 32 (by decide) (by unfold isDig; decide)
  intro y hy
  unfold tkWds at hy
  simp only [List.mem_cons, List.not_mem_nil, or_false] at hy
  rcases hy with rfl | rfl | rfl | rfl | rfl | rfl | rfl | rfl | rfl | rfl | rfl | rfl | rfl | rfl | rfl | rfl
  all_goals first | exact hi _ | decide
theorem tkBody_no (x : Tk) : 10 ∉ tkBody x := by
  have hi : ∀ n, (10 : UInt8) ∉ Lib.itoa n := fun n => itoa_no n 10 (by decide) (by unfold isDig; decide)
  unfold tkBody
  simp [List.mem_append, hi]
theorem tk_read (x : Tk) (hok : x.ok = true) (hwf : x.wf) : rdOf (fun t => tkRead (splitS (remB t))) Tk.ok taskB (taskB x) = some x := by
  have hs : splitS (remB (Lib.trimSuffix (taskB x) [10])) = tkWds x := by
    rw [taskB_body, trim_line, remB_body, splitS_join _ (by simp [tkWds]) (tkWds_no x)]
  have hr : tkRead (splitS (remB (Lib.trimSuffix (taskB x) [10]))) = x := by
    rw [hs]
    obtain ⟨h1, hwn⟩ := hwf
    have h2 := hwn x.calls (by simp [Tk.nums])
    have h3 := hwn x.refused (by simp [Tk.nums])
    have h4 := hwn x.steps (by simp [Tk.nums])
    have h5 := hwn x.ended (by simp [Tk.nums])
    have h6 := hwn x.failed (by simp [Tk.nums])
    have h7 := hwn x.read (by simp [Tk.nums])
    have h8 := hwn x.written (by simp [Tk.nums])
    unfold tkRead tkWds
    simp only [List.getD_cons_zero, List.getD_cons_succ]
    rw [valB_itoa _ h1, valB_itoa _ h2, valB_itoa _ h3, valB_itoa _ h4, valB_itoa _ h5, valB_itoa _ h6, valB_itoa _ h7, valB_itoa _ h8]
  unfold rdOf
  show (if (tkRead (splitS (remB (Lib.trimSuffix (taskB x) [10])))).ok = true ∧ taskB (tkRead (splitS (remB (Lib.trimSuffix (taskB x) [10])))) = taskB x then some (tkRead (splitS (remB (Lib.trimSuffix (taskB x) [10])))) else none) = some x
  rw [hr, if_pos ⟨hok, rfl⟩]
theorem idxFrom_none : ∀ (zs : List ByteArray) (x : ByteArray) (k : Nat), x ∉ zs → Lib.idxFromS zs x k = -1
  | [], _, _, _ => rfl
  | z :: r, x, k, h => by
    unfold Lib.idxFromS
    rw [if_neg (fun e => h (by simp [e]))]
    exact idxFrom_none r x (k + 1) (fun hm => h (List.mem_cons_of_mem _ hm))
theorem bs_inj {a b : List UInt8} (h : bs a = bs b) : a = b := by
  have := congrArg (fun x : ByteArray => x.data.toList) h
  simpa [bs] using this
theorem idx_call (i : Nat) (h0 : 0 < i) (h : i < 13) : idxB callWs (callWs.getD i []) = (i : Int) := by
  have : ∀ i, i < 13 → idxB callWs (callWs.getD i []) = (i : Int) := by decide
  exact this i h
theorem idx_code (i : Nat) (h : i < 17) : idxB codeWs (codeWs.getD i []) = (i : Int) := by
  have : ∀ i, i < 17 → idxB codeWs (codeWs.getD i []) = (i : Int) := by decide
  exact this i h
theorem idx_code_no (u : Nat) : idxB codeWs (Lib.decDigits u) = -1 := by
  unfold idxB Lib.idxOfS
  refine idxFrom_none _ _ _ (fun h => ?_)
  obtain ⟨y, hy, he⟩ := List.mem_map.1 h
  have he := bs_inj he
  have hd : ∀ y ∈ codeWs, ∃ c ∈ y, ¬ (48 ≤ c.toNat ∧ c.toNat ≤ 57) := by decide
  obtain ⟨c, hc, hn⟩ := hd y hy
  rw [he] at hc
  exact hn (decDigits_dig u c hc)
theorem cdWords_no (x : Cd) (hok : x.ok = true) (c : UInt8) (hc : c = 32 ∨ c = 10) : ∀ y ∈ [callB x.call, codeB x.err, Lib.itoa x.n], c ∉ y := by
  unfold Cd.ok at hok
  simp only [decide_eq_true_eq] at hok
  have hd : ¬ isDig c := by
    unfold isDig
    rcases hc with rfl | rfl <;> decide
  have h45 : c ≠ 45 := by rcases hc with rfl | rfl <;> decide
  intro y hy
  simp only [List.mem_cons, List.not_mem_nil, or_false] at hy
  rcases hy with rfl | rfl | rfl
  · unfold callB
    rw [if_pos (by omega)]
    have h1 : ∀ i, i < 13 → 32 ∉ callWs.getD i [] := by decide
    have h2 : ∀ i, i < 13 → 10 ∉ callWs.getD i [] := by decide
    rcases hc with rfl | rfl
    · exact h1 _ (by omega)
    · exact h2 _ (by omega)
  · unfold codeB
    split
    · have h1 : ∀ i, i < 17 → 32 ∉ codeWs.getD i [] := by decide
      have h2 : ∀ i, i < 17 → 10 ∉ codeWs.getD i [] := by decide
      rcases hc with rfl | rfl
      · exact h1 _ (by omega)
      · exact h2 _ (by omega)
    · exact itoa_no _ c h45 hd
  · exact itoa_no _ c h45 hd
theorem cd_read (x : Cd) (hok : x.ok = true) (hwf : x.wf) : rdOf (fun t => cdRead (splitS t)) Cd.ok cdB (cdB x) = some x := by
  have hs : splitS (Lib.trimSuffix (cdB x) [10]) = [callB x.call, codeB x.err, Lib.itoa x.n] := by
    unfold cdB
    rw [trim_line, splitS_join _ (by simp) (cdWords_no x hok 32 (.inl rfl))]
  have hr : cdRead (splitS (Lib.trimSuffix (cdB x) [10])) = x := by
    rw [hs]
    unfold Cd.ok at hok
    simp only [decide_eq_true_eq] at hok
    obtain ⟨k, e, n⟩ := x
    obtain ⟨i1, i2, i3⟩ := hwf
    simp only at hok i1 i2 i3
    obtain ⟨k, rfl⟩ : ∃ u : Nat, k = u := ⟨k.toNat, by omega⟩
    obtain ⟨e, rfl⟩ : ∃ u : Nat, e = u := ⟨e.toNat, by omega⟩
    have hk : callB (k : Int) = callWs.getD k [] := by unfold callB; rw [if_pos (by omega)]; rfl
    unfold cdRead
    simp only [List.getD_cons_zero, List.getD_cons_succ]
    rw [valB_itoa _ i3, hk, idx_call k (by omega) (by omega)]
    by_cases he : e < 17
    · have hc : codeB (e : Int) = codeWs.getD e [] := by unfold codeB; rw [if_pos (by omega)]; rfl
      rw [hc, idx_code e he, if_neg (by omega)]
    · have hc : codeB (e : Int) = Lib.decDigits e := by unfold codeB; rw [if_neg (by omega), Lib.itoa_nonneg]
      rw [hc, idx_code_no, if_pos (by omega), valB_dec e (by unfold I64 at i2; omega)]
  unfold rdOf
  show (if (cdRead (splitS (Lib.trimSuffix (cdB x) [10]))).ok = true ∧ cdB (cdRead (splitS (Lib.trimSuffix (cdB x) [10]))) = cdB x then some (cdRead (splitS (Lib.trimSuffix (cdB x) [10]))) else none) = some x
  rw [hr, if_pos ⟨hok, rfl⟩]
/-- The lines of a text. -/
theorem lines_of {α : Type} (line body : α → List UInt8) : ∀ xs : List α, (∀ x ∈ xs, line x = body x ++ [10] ∧ 10 ∉ body x) → linesGo [] (textOf line xs) = xs.map line
  | [], _ => rfl
  | x :: r, h => by
    obtain ⟨h1, h2⟩ := h x (by simp)
    have e : textOf line (x :: r) = body x ++ 10 :: textOf line r := by
      simp only [textOf, List.map_cons, List.flatten_cons]
      rw [h1]
      simp
    rw [e, linesGo_line _ _ _ h2, lines_of line body r (fun y hy => h y (List.mem_cons_of_mem _ hy)), List.map_cons, h1]
    rfl
theorem parse_all {α : Type} (rd : List UInt8 → Option α) (line : α → List UInt8) : ∀ (xs out : List α), (∀ x ∈ xs, rd (line x) = some x) → out.length + xs.length ≤ 1000 → parseL rd (xs.map line) out = (out ++ xs, 0, 0)
  | [], out, _, _ => by simp [parseL]
  | x :: r, out, h, hl => by
    simp only [List.length_cons] at hl
    rw [List.map_cons, parseL, if_neg (by omega), h x (by simp)]
    simp only
    rw [parse_all rd line r (out ++ [x]) (fun y hy => h y (List.mem_cons_of_mem _ hy)) (by simp; omega)]
    simp
def rdTasks (s : List UInt8) : List Tk × Int × Int := parseL (rdOf (fun t => tkRead (splitS (remB t))) Tk.ok taskB) (linesGo [] s) []
theorem tasks_back (xs : List Tk) (hok : xs.all Tk.ok = true) (hwf : ∀ x ∈ xs, x.wf) (hl : xs.length ≤ 1000) : rdTasks (textOf taskB xs) = (xs, 0, 0) := by
  rw [List.all_eq_true] at hok
  unfold rdTasks
  rw [lines_of taskB tkBody xs (fun x _ => ⟨taskB_body x, tkBody_no x⟩), parse_all _ _ xs [] (fun x hx => tk_read x (hok x hx) (hwf x hx)) (by simpa using hl)]
  rfl
theorem codes_back (xs : List Cd) (hok : xs.all Cd.ok = true) (hwf : ∀ x ∈ xs, x.wf) (hl : xs.length ≤ 1000) : rdCodes (textOf cdB xs) = (xs, 0, 0) := by
  rw [List.all_eq_true] at hok
  unfold rdCodes
  rw [lines_of cdB (fun x => Lib.join [callB x.call, codeB x.err, Lib.itoa x.n] [32]) xs (fun x hx => ⟨rfl, no_join 10 (by decide) _ (cdWords_no x (hok x hx) 10 (.inr rfl))⟩), parse_all _ _ xs [] (fun x hx => cd_read x (hok x hx) (hwf x hx)) (by simpa using hl)]
  rfl
/-- Different lists have different texts. -/
theorem tasks_inj {xs ys : List Tk} (hx : xs.all Tk.ok = true) (hxw : ∀ x ∈ xs, x.wf) (hxl : xs.length ≤ 1000) (hy : ys.all Tk.ok = true) (hyw : ∀ x ∈ ys, x.wf) (hyl : ys.length ≤ 1000) (h : textOf taskB xs = textOf taskB ys) : xs = ys := by
  have h1 := tasks_back xs hx hxw hxl
  rw [h, tasks_back ys hy hyw hyl] at h1
  exact (congrArg (·.1) h1).symm
/-! The ends of all tasks. -/
theorem upT_ended (v : Ev) (x : Tk) : (upT v x).ended = x.ended + if v.ended = true then 1 else 0 := by
  unfold upT upE upD upC upB upA
  repeat' split
  all_goals simp_all
theorem td_sum_up (v : Ev) : ∀ D : List (Int × Tk), (D.map (·.1)).Nodup → (D.any fun p => p.1 == v.task) = true → ((D.map (fun p => if p.1 = v.task then (p.1, upT v p.2) else p)).map (fun p => p.2.ended)).sum = (D.map (fun p => p.2.ended)).sum + if v.ended = true then 1 else 0
  | [], _, h => by simp at h
  | p :: r, hn, h => by
    simp only [List.map_cons, List.nodup_cons] at hn
    simp only [List.map_cons, List.sum_cons]
    by_cases hp : p.1 = v.task
    · rw [if_pos hp]
      have hid : r.map (fun p => if p.1 = v.task then (p.1, upT v p.2) else p) = r := by
        have : r.map (fun p => if p.1 = v.task then (p.1, upT v p.2) else p) = r.map id := by
          refine List.map_congr_left (fun q hq => ?_)
          rw [if_neg (fun e => hn.1 (by rw [hp, ← e]; exact List.mem_map.2 ⟨q, hq, rfl⟩))]
          rfl
        rw [this, List.map_id]
      rw [hid]
      dsimp only
      rw [upT_ended]
      omega
    · rw [if_neg hp]
      have h' : (r.any fun p => p.1 == v.task) = true := by
        simp only [List.any_cons, Bool.or_eq_true] at h
        rcases h with h | h
        · exact absurd (by simpa using h) hp
        · exact h
      rw [td_sum_up v r hn.2 h']
      omega
theorem td_sum (l : List Ev) : ((tdOf l).map (fun p => p.2.ended)).sum = (l.countP (·.ended) : Int) := by
  have : ∀ (l : List Ev) (D : List (Int × Tk)), (D.map (·.1)).Nodup → ((l.foldl tdStep D).map (fun p => p.2.ended)).sum = (D.map (fun p => p.2.ended)).sum + (l.countP (·.ended) : Int) := by
    intro l
    induction l with
    | nil => intro D _; simp
    | cons v r ih =>
      intro D hD
      have hD' : ((tdStep D v).map (·.1)).Nodup := by
        rw [step_keys]
        split
        · next hc =>
          rw [List.nodup_append]
          exact ⟨hD, by simp, fun a ha b hb e => by
            rw [List.mem_singleton] at hb
            subst hb e
            exact hc.2 ha⟩
        · exact hD
      rw [List.foldl_cons, ih _ hD', List.countP_cons]
      have hs : ((tdStep D v).map (fun p => p.2.ended)).sum = (D.map (fun p => p.2.ended)).sum + if v.ended = true then 1 else 0 := by
        unfold tdStep
        cases hc : v.counts with
        | false =>
          have : v.ended = false := by
            cases he : v.ended with
            | false => rfl
            | true => rw [ended_counts he] at hc; cases hc
          rw [this]
          simp
        | true =>
          rw [if_pos rfl]
          cases ha : (D.any fun p => p.1 == v.task) with
          | true =>
            rw [if_pos rfl]
            exact td_sum_up v D hD ha
          | false =>
            rw [if_neg (by simp), List.map_append, List.sum_append]
            simp only [List.map_cons, List.map_nil, List.sum_cons, List.sum_nil]
            rw [upT_ended]
            simp [tk0]
      rw [hs]
      split <;> omega
  have h := this l [] (by simp)
  simpa [tdOf] using h
theorem tasks_sum (l : List Ev) : ((tasksOf (tdOf l)).map (·.ended)).sum = (l.countP (·.ended) : Int) := by
  rw [← td_sum l]
  have hlk : ∀ (D : List (Int × Tk)), (D.map (·.1)).Nodup → ∀ p ∈ D, D.lookup p.1 = some p.2 := by
    intro D
    induction D with
    | nil => intro _ p hp; cases hp
    | cons q r ih =>
      intro hn p hp
      simp only [List.map_cons, List.nodup_cons] at hn
      simp only [List.lookup]
      rcases List.mem_cons.1 hp with rfl | hp
      · simp
      · have hne : p.1 ≠ q.1 := fun e => hn.1 (by rw [← e]; exact List.mem_map.2 ⟨p, hp, rfl⟩)
        rw [show (p.1 == q.1) = false from by simpa using hne]
        exact ih hn.2 p hp
  have hperm : (tasksOf (tdOf l)).Perm ((tdOf l).map (·.2)) := by
    unfold tasksOf
    refine ((List.mergeSort_perm _ _).map _).trans (List.Perm.of_eq ?_)
    rw [List.map_map]
    refine List.map_congr_left (fun p hp => ?_)
    simp only [Function.comp]
    unfold tkOf
    rw [hlk _ (keys_nodup l) p hp]
    rfl
  rw [perm_sum (hperm.map _), List.map_map]
  rfl
theorem tkOf_nonneg (l : List Ev) (t : Int) : 0 ≤ (tkOf (tdOf l) t).ended := by
  rw [tkOf_dn]
  have : ∀ (l : List Ev) (x : Tk), 0 ≤ x.ended → 0 ≤ (l.foldl (dnStep t) x).ended := by
    intro l
    induction l with
    | nil => intro x h; exact h
    | cons v r ih =>
      intro x h
      refine ih _ ?_
      unfold dnStep
      repeat' split
      · rw [upT_ended]
        split <;> omega
      · exact h
      · exact h
  exact this l (tk0 t) (by simp [tk0])
theorem tasksOf_nonneg (l : List Ev) : ∀ x ∈ tasksOf (tdOf l), 0 ≤ x.ended := by
  intro x hx
  unfold tasksOf at hx
  obtain ⟨t, _, rfl⟩ := List.mem_map.1 hx
  exact tkOf_nonneg l t
theorem sum_part {α : Type} (f : α → Int) : ∀ (L : List α) (p : Nat), (∀ x ∈ L, 0 ≤ f x) → 0 ≤ ((L.take p).map f).sum ∧ ((L.take p).map f).sum ≤ (L.map f).sum
  | [], p, _ => by simp
  | x :: r, 0, h => by
    have h1 := h x (by simp)
    have h2 := sum_part f r 0 (fun y hy => h y (List.mem_cons_of_mem _ hy))
    simp only [List.take_zero, List.map_nil, List.sum_nil, List.map_cons, List.sum_cons] at h2 ⊢
    omega
  | x :: r, p + 1, h => by
    have h1 := h x (by simp)
    have h2 := sum_part f r p (fun y hy => h y (List.mem_cons_of_mem _ hy))
    simp only [List.take_succ_cons, List.map_cons, List.sum_cons]
    omega
theorem part_succ {α : Type} (f : α → Int) (L : List α) (p : Nat) (x : α) (h : L[p]? = some x) : ((L.take (p + 1)).map f).sum = ((L.take p).map f).sum + f x := by
  rw [List.take_add_one, h, List.map_append, List.sum_append]
  simp
theorem tkRead_wf (ws : List (List UInt8)) : (tkRead ws).wf := by
  refine ⟨valB_i64 _, fun n hn => ?_⟩
  simp only [tkRead, Tk.nums, List.mem_cons, List.not_mem_nil, or_false] at hn
  rcases hn with rfl | rfl | rfl | rfl | rfl | rfl | rfl
  all_goals exact valB_i64 _
end Go.Proofs.YtllmejkcohfbiaaGreatDoor
namespace Go.Proofs.YtllmejkcohfbiaaGreatDoor
open Go.RowKit Go.Shelf Go.Sort Go.Lib
set_option linter.unusedVariables false
set_option linter.unusedSimpArgs false
set_option maxRecDepth 100000
set_option maxHeartbeats 16000000

def Tk.setNum (x : Tk) (q : Nat) (v : Int) : Tk := match q with
  | 0 => { x with calls := v }
  | 1 => { x with refused := v }
  | 2 => { x with steps := v }
  | 3 => { x with ended := v }
  | 4 => { x with failed := v }
  | 5 => { x with read := v }
  | _ => { x with written := v }
theorem TkAt.setNum {W : World} {E : Nat} {x : Tk} (h : TkAt W E x) {q : Nat} (hq : q < 7) (v : Int) : TkAt (W.setCell ⟨E, 1 + q, none⟩ (.int .i64 v)) E (x.setNum q v) := by
  match q, hq with
  | 0, _ => exact h.set1 v
  | 1, _ => exact h.set2 v
  | 2, _ => exact h.set3 v
  | 3, _ => exact h.set4 v
  | 4, _ => exact h.set5 v
  | 5, _ => exact h.set6 v
  | 6, _ => exact h.set7 v
/-- What has been read after q numbers. -/
def tkPart (ws : List (List UInt8)) : Nat → Tk
  | 0 => ⟨valB (ws.getD 1 []), 0, 0, 0, 0, 0, 0, 0⟩
  | q + 1 => (tkPart ws q).setNum q (valB (ws.getD (3 + 2 * q) []))
theorem tkPart_full (ws : List (List UInt8)) : tkPart ws 7 = tkRead ws := rfl
theorem remB_le (l : List UInt8) : (remB l).length ≤ l.length := by
  have := remB_len l
  omega
theorem taskRead_any (l : List UInt8) (hl : l.length ≤ 100000) (w : World) (he : EnvR w) :
    Calls Tryz.prog 62 #[.string (bs l)] w fun e w' => e = .returned (tkV (tkRead (splitS (remB l)))) ∧ Fr [] w w' := by
  have HE := Lib.hid he
  have HL := Lib.hid hl
  obtain ⟨wA, hwA⟩ : ∃ z, w.alloc (.cells #[.int .i64 0, .int .i64 0, .int .i64 0, .int .i64 0, .int .i64 0, .int .i64 0, .int .i64 0, .int .i64 0] 58) = z := ⟨_, rfl⟩
  have HR0 := Lib.hid (show TkAt wA w.heap.size ⟨0, 0, 0, 0, 0, 0, 0, 0⟩ from by rw [← hwA]; exact TkAt.made w ⟨0, 0, 0, 0, 0, 0, 0, 0⟩)
  have HFA := Lib.hid (show Fr [] w wA from by rw [← hwA]; exact (Fr.refl [] w).alloc _)
  have HZA := Lib.hid (show wA.heap.size = w.heap.size + 1 from by rw [← hwA]; simp)
  obtain ⟨wB, hwB⟩ : ∃ z, wA.alloc (.cells #[.string ⟨#[44]⟩, .string ⟨#[]⟩, .string ⟨#[58]⟩, .string ⟨#[]⟩] 9) = z := ⟨_, rfl⟩
  have hold : OldNew wB wA.heap.size := by rw [← hwB]; exact ⟨by simp, by simp, by simp, by simp⟩
  have hDl : wA.heap.size < wB.heap.size := by rw [← hwB]; simp
  have HFB := Lib.hid (show Fr [] wA wB from by rw [← hwB]; exact (Fr.refl [] wA).alloc _)
  have HNR := Lib.hid (newReplacer_any wA.heap.size wB hold hDl)
  obtain ⟨ws, hws⟩ : ∃ ws, splitS (remB l) = ws := ⟨_, rfl⟩
  rw [hws]
  have HWS := Lib.hid hws
  obtain ⟨y, hy⟩ : ∃ y, tkRead ws = y := ⟨_, rfl⟩
  rw [hy]
  have HY := Lib.hid hy
  clear he hl hold hDl hws hy
  go_enter Tryz.func62, Tryz.ntmps62
  go_wp2_with fail
  refine HNR.out.mono ?_
  clear hwA hwB HNR
  rintro e w1 ⟨B, A, cap, rfl, hrp, hon, hAB, hA, hB, hAl, f1⟩
  have HRE := Lib.hid (replace_any B A cap l HL.out w1 hrp hAB hAl hon)
  clear hrp hon hAB hAl
  go_wp2_with fail
  refine HRE.out.mono ?_
  rintro e w2 ⟨rfl, f2⟩
  have F2 := Lib.hid (show Fr [] w w2 from (((HFA.out.step HFB.out).step f1).trans f2 (fun x hx hl => by
    rw [List.mem_singleton] at hx
    have h1 := HFB.out.size
    have h2 := HZA.out
    omega)))
  have FA2 := Lib.hid (show Fr [] wA w2 from ((HFB.out.step f1).trans f2 (fun x hx hl => by
    rw [List.mem_singleton] at hx
    have h1 := HFB.out.size
    omega)))
  clear f1 f2 hA hB HRE
  have HSP := Lib.hid (split_any (remB l) (by have := remB_le l; have := HL.out; omega) w2 (HE.out.new F2.out))
  have HL0 := Lib.hid (splitS_getD_le (remB l))
  have HLN := Lib.hid (splitS_len (remB l))
  have HRL := Lib.hid (remB_le l)
  rw [HWS.out] at HSP HL0 HLN
  obtain ⟨n, hn⟩ : ∃ n, ws.length = n := ⟨_, rfl⟩
  have HN := Lib.hid hn
  rw [hn] at HSP HLN
  clear hn
  go_wp2_with fail
  refine HSP.out.mono ?_
  rintro e w3 ⟨K, c, rfl, f3, hc⟩
  have F3 := Lib.hid (F2.out.step f3)
  have R3 := Lib.hid (HR0.out.keep (FA2.out.step f3) (by simp))
  have HC := Lib.hid hc
  clear f3 hc HSP
  have HF := Lib.hid (fun (i : Nat) (hi : i < 1000) (W : World) (hcell : ∀ (j : Nat) x, ws[j]? = some x → W.cell? ⟨K, 0 + j, none⟩ = some (.string (bs x))) => (show Calls Tryz.prog 97 #[.slice (some ⟨K, 0, none⟩) n c, .int .i64 i] W fun e w' => e = .returned (.string (bs (ws.getD i []))) ∧ W = w' from by
    have h := field_any K c ws i hi (by rw [HN.out]; have := HLN.out; have := HRL.out; have := HL.out; omega) W hcell
    rw [HN.out] at h
    exact h))
  have HV := Lib.hid (fun (i : Nat) (W : World) (f : Fr [] w W) => value_any (ws.getD i []) (by have := HL0.out i; have := HRL.out; have := HL.out; omega) W (HE.out.new f))
  go_wp2_with fail
  refine (HF.out 1 (by omega) _ HC.out).mono ?_
  rintro e w' ⟨rfl, rfl⟩
  go_wp2_with fail
  refine (HV.out 1 _ F3.out).mono ?_
  rintro e w4 ⟨rfl, f4⟩
  obtain ⟨v1, hv1⟩ : ∃ v, valB (ws.getD 1 []) = v := ⟨_, rfl⟩
  rw [hv1]
  obtain ⟨w5, hw5⟩ : ∃ z, w4.alloc (.cells #[.int .i64 v1, .int .i64 0, .int .i64 0, .int .i64 0, .int .i64 0, .int .i64 0, .int .i64 0, .int .i64 0] 58) = z := ⟨_, rfl⟩
  have f5 : Fr [] w4 w5 := by rw [← hw5]; exact (Fr.refl [] w4).alloc _
  have X5 := Lib.hid (show TkAt w5 w4.heap.size (tkPart ws 0) from by rw [← hw5]; unfold tkPart; rw [hv1]; exact TkAt.made w4 ⟨v1, 0, 0, 0, 0, 0, 0, 0⟩)
  have F5 := Lib.hid (F3.out.step (f4.step f5))
  have R5 := Lib.hid (R3.out.keep (f4.step f5) (by simp))
  have C5 := Lib.hid (fun (j : Nat) x (hj : ws[j]? = some x) => (f4.step f5).keep (HC.out j x hj) (by simp))
  have HKE := Lib.hid (show K < w4.heap.size ∨ ws = [] from by
    cases hw : ws with
    | nil => exact .inr rfl
    | cons y r => exact .inl (Nat.lt_of_lt_of_le (cell_lt (HC.out 0 y (by rw [hw]; rfl))) f4.size))
  have HRE := Lib.hid (show w.heap.size < w4.heap.size from Nat.lt_of_lt_of_le R3.out.lt f4.size)
  obtain ⟨E, hE⟩ : ∃ E, w4.heap.size = E := ⟨_, rfl⟩
  rw [hE] at X5 HKE HRE
  have HW5 := Lib.hid hw5
  have HEE := Lib.hid hE
  clear f4 f5 hw5 hE
  go_wp2_with fail
  rw [HW5.out, HEE.out]
  clear HW5 HEE hv1
  refine (numbers_any E w5).mono ?_
  rintro e w6 ⟨P, rfl, hP, f6, hPE⟩
  have X6 := Lib.hid (X5.out.keep f6 (by simp))
  have F6 := Lib.hid (F5.out.step f6)
  have R6 := Lib.hid (R5.out.keep f6 (by simp))
  have C6 := Lib.hid (fun (j : Nat) x (hj : ws[j]? = some x) => f6.keep (C5.out j x hj) (by simp))
  have HP := Lib.hid hP
  have hEP : E ≠ P := by have := X5.out.lt; omega
  have HEP := Lib.hid hEP
  clear hP f6 hPE hEP
  go_wp2
  go_loopw [18] (fun i wr => ∃ (wz : World) (q : Nat), wz = wr ∧ i = .int .i64 q ∧ q ≤ 7 ∧ TkAt wr E (tkPart ws q) ∧ Fr [E] w6 wr) (fun i _ => 7 - (intOf i).toNat)
  case atStart => exact ⟨_, 0, rfl, rfl, by omega, X6.out, Fr.refl _ _⟩
  case round =>
    obtain ⟨wr, q, hwz, rfl, hq, hX, hF⟩ := hrel
    subst hwz
    have HX := Lib.hid hX
    have HFr := Lib.hid hF
    have HFW := Lib.hid (show Fr [] w wr from F6.out.trans hF (fun x hx hl => by
      rw [List.mem_singleton] at hx
      have := HRE.out
      omega))
    have HCr := Lib.hid (show ∀ (j : Nat) x, ws[j]? = some x → wr.cell? ⟨K, 0 + j, none⟩ = some (.string (bs x)) from fun j x hj => hF.keep (C6.out j x hj) (by
      rw [List.mem_singleton]
      rcases HKE.out with h | h
      · omega
      · rw [h] at hj
        simp at hj))
    clear hX
    by_cases hlt : q < 7
    · have hlt' : (q : Int) < 7 := by omega
      have p0 := (HP.out.keep hF (by rw [List.mem_singleton]; exact HEP.out.symm)).at hlt
      have HFq := HF.out (3 + 2 * q) (by omega) wr HCr.out
      have HVq := fun W f => HV.out (3 + 2 * q) W f
      have ecast : ((3 + 2 * q : Nat) : Int) = 3 + 2 * (q : Int) := by omega
      rw [ecast] at HFq
      have HFQ := Lib.hid HFq
      have HVQ := Lib.hid HVq
      clear HFq HVq ecast hF
      go_wp2_with fail
      refine HFQ.out.mono ?_
      rintro e w' ⟨rfl, rfl⟩
      go_wp2_with fail
      refine (HVQ.out _ HFW.out).mono ?_
      rintro e w7 ⟨rfl, f7⟩
      have hX7 := HX.out.keep f7 (by simp)
      have x0 := hX7.num hlt
      have xz := hX7.fz (1 + q)
      have HX8 := Lib.hid (show TkAt (w7.setCell ⟨E, 1 + q, none⟩ (.int .i64 (valB (ws.getD (3 + 2 * q) [])))) E (tkPart ws (q + 1)) from hX7.setNum hlt _)
      have HF8 := Lib.hid (show Fr [E] w6 (w7.setCell ⟨E, 1 + q, none⟩ (.int .i64 (valB (ws.getD (3 + 2 * q) [])))) from (HFr.out.step f7).setCell (fun _ => by simp) _)
      clear hX7 f7 p0
      go_wp2
      go_roundw
      case rel => exact ⟨_, q + 1, rfl, by go_num, by omega, HX8.out, HF8.out⟩
      case measure => simp [intOf]; omega
    · have hq7 : q = 7 := by omega
      subst hq7
      rw [tkPart_full] at HX
      have R8 := Lib.hid (R6.out.keep hF (by rw [List.mem_singleton]; have := HRE.out; omega))
      have hne : w.heap.size ≠ E := by have := HRE.out; omega
      have x0 := HX.out.c0
      have x1 := HX.out.c1
      have x2 := HX.out.c2
      have x3 := HX.out.c3
      have x4 := HX.out.c4
      have x5 := HX.out.c5
      have x6 := HX.out.c6
      have x7 := HX.out.c7
      have r0 := R8.out.c0
      have r1 := R8.out.c1
      have r2 := R8.out.c2
      have r3 := R8.out.c3
      have r4 := R8.out.c4
      have r5 := R8.out.c5
      have r6 := R8.out.c6
      have r7 := R8.out.c7
      have rz := R8.out.fz
      rw [HY.out] at x0 x1 x2 x3 x4 x5 x6 x7
      simp only at r0 r1 r2 r3 r4 r5 r6 r7
      clear hF
      go_wp2
      have q1 := R8.out.setAll y
      have n0 := q1.c0
      have n1 := q1.c1
      have n2 := q1.c2
      have n3 := q1.c3
      have n4 := q1.c4
      have n5 := q1.c5
      have n6 := q1.c6
      have n7 := q1.c7
      clear r0 r1 r2 r3 r4 r5 r6 r7 x0 x1 x2 x3 x4 x5 x6 x7 q1
      refine bodyPost_ret (v := tkV y) (by simp [tkV, results, Tryz.results62, go_sem, n0, n1, n2, n3, n4, n5, n6, n7]) rfl ?_
      refine ⟨rfl, ?_⟩
      exact (((((((HFW.out.setCell (fun h => absurd h (Nat.lt_irrefl _)) _).setCell (fun h => absurd h (Nat.lt_irrefl _)) _).setCell (fun h => absurd h (Nat.lt_irrefl _)) _).setCell (fun h => absurd h (Nat.lt_irrefl _)) _).setCell (fun h => absurd h (Nat.lt_irrefl _)) _).setCell (fun h => absurd h (Nat.lt_irrefl _)) _).setCell (fun h => absurd h (Nat.lt_irrefl _)) _).setCell (fun h => absurd h (Nat.lt_irrefl _)) _
end Go.Proofs.YtllmejkcohfbiaaGreatDoor
namespace Go.Proofs.YtllmejkcohfbiaaGreatDoor
open Go.RowKit Go.Shelf Go.Sort Go.Lib
set_option linter.unusedVariables false
set_option linter.unusedSimpArgs false
set_option maxRecDepth 100000
set_option maxHeartbeats 40000000

attribute [local go_sem] Oper.semAt_some
theorem tkLines_any (rdf : List UInt8 → Tk) (s : List UInt8) (hs : s.length ≤ 100000) (w : World) (ht : Tab w)
    (hR : ∀ x ∈ linesGo [] s, ∀ W, Fr [] w W → Calls Tryz.prog 62 #[.string (bs (Lib.trimSuffix x [10]))] W fun e w' => e = .returned (tkV (rdf (Lib.trimSuffix x [10]))) ∧ Fr [] W w')
    (hwf : ∀ x ∈ linesGo [] s, (rdf (Lib.trimSuffix x [10])).wf) :
    Calls Tryz.prog 61 #[.string (bs s), .func (.func 62) #[] #[], .func (.func 49) #[] #[], .func (.func 50) #[] #[]] w (TkPost w (parseL (rdOf rdf Tk.ok taskB) (linesGo [] s) [])) := by
  have HR := Lib.hid hR
  have HWF := Lib.hid hwf
  have HS := Lib.hid hs
  have HT := Lib.hid ht
  obtain ⟨rd, hrd⟩ : ∃ rd, rdOf rdf Tk.ok taskB = rd := ⟨_, rfl⟩
  rw [hrd]
  have HRD := Lib.hid hrd
  clear hR hwf ht hrd
  obtain ⟨i0, hi, hz0, hz1, hz2⟩ := info_parts infoTk
  refine (callsIn_wide (n := 6)).1 ?_
  refine callsIn_of_wp_marks Tryz.func61 rfl trivial ?_ rfl
  simp only [Tryz.ntmps61, List.size_toArray, List.length_cons, List.length_nil, Nat.reduceAdd, Nat.reduceSub, Array.replicate_succ, Array.replicate_zero, List.push_toArray, List.append_toArray, List.nil_append, List.cons_append]
  gi_wp2_with (refine ⟨trivial, ?_⟩; gi_at_call 93; refine (callsIn_wide.2 (lines_any _ _)).mono ?_; rintro e w1 ⟨rfl, rfl⟩)
  obtain ⟨N, hN⟩ : ∃ N, w.heap.size = N := ⟨_, rfl⟩
  have hPI := own_TkI rd w
  have hPX := own_TkX rd w
  obtain ⟨W0, hW0⟩ : ∃ W0, ((((((w.alloc (.cells #[.func (.func 62) #[] #[]] 129)).alloc (.cells #[.func (.func 49) #[] #[]] 117)).alloc (.cells #[.func (.func 50) #[] #[]] 118)).alloc (.cells #[.slice none 0 0] 52)).alloc (.cells #[.int .i64 0] 3)).alloc (.cells #[.int .i64 0] 28)).alloc (.cells #[.string (bs s)] 9) = W0 := ⟨_, rfl⟩
  obtain ⟨hz, fr0, q8, q9, qa, q1, q2, q3, hX0⟩ := allocs7 w _ _ _ _ _ _ _ W0 hW0
  rw [hN] at hz q8 q9 qa q1 q2 q3 hX0
  simp only [hN] at hPI hPX ⊢
  rw [hW0]
  clear hW0
  have h0 : TkI rd w N [] W0 := ⟨[], .slice none 0 0, SoFar.start rd, W0.ownsRow_nil _ _ _, q1, q2, q3, q8, q9, qa, fr0, by omega⟩
  have HX0 := Lib.hid hX0
  have HPI := Lib.hid hPI
  have HPX := Lib.hid hPX
  have HN := Lib.hid hN
  have HZ := Lib.hid hz
  clear hX0 q1 q2 q3 q8 q9 qa hPI hPX fr0
  refine range_box (X := N + 6) (encs := fun x => #[.string (bs x)]) rfl (by omega) (gf := 117) (lb := #[.pointer (some ⟨N + 6, 0, none⟩)]) rfl trivial (enters_of Tryz.func117 (by kernel_rfl) rfl)
    (lines_seq 5 (by omega) (N + 6) s (by omega) W0 HX0.out (by omega)) (Below.refl _ _) (by omega) (fun _ => rfl) (TkI rd w N) (TkX rd w N) (by rw [hz]; exact HPI.out) (by rw [hz]; exact HPX.out) h0
    (fun x => { tmps := #[.string (bs s), .func (.func 62) #[] #[], .func (.func 49) #[] #[], .func (.func 50) #[] #[], undef, .pointer (some ⟨N, 0, none⟩), .pointer (some ⟨N + 1, 0, none⟩), .pointer (some ⟨N + 1 + 1, 0, none⟩), .pointer (some ⟨N + 1 + 1 + 1, 0, none⟩), .pointer (some ⟨N + 1 + 1 + 1 + 1, 0, none⟩), .pointer (some ⟨N + 1 + 1 + 1 + 1 + 1, 0, none⟩), .string (bs x), undef, .string (bs s), .func (.func 117) #[] #[.pointer (some ⟨N + 6, 0, none⟩)], .string (bs x), undef, undef, undef, undef, undef, undef, undef, undef, undef, undef, undef, undef, undef, undef, undef, undef, undef, undef, undef, undef, undef, undef, undef, undef, undef, undef, undef, undef], defers := [] }) ?assign ?body ?done ?stop
  case assign =>
    intro l x W K hK
    simp
    gi_wp2
    exact hK
  case body =>
    intro l pre x W ⟨fs, v, h1, h2, h3, h4, h5, h8, h9, ha, h6, hWN⟩ hG
    have hmem : x ∈ linesGo [] s := hG.subset (by simp)
    have hrd := fun W' (f : Fr [] W W') => HR.out x hmem W' (h6.step f)
    have hfw := HWF.out x hmem
    have htr := fun W' => (show Calls Tryz.prog 94 #[.string (bs x), .string ⟨#[10]⟩] W' fun e w' => e = .returned (.string (bs (Lib.trimSuffix x [10]))) ∧ w' = W' from by
      have h := Tryz.strings_TrimSuffix (bs x) ⟨#[10]⟩ W' (by
        have := lines_len s [] x hmem
        simp only [List.length_nil] at this
        have := HS.out
        rw [bs_size]
        omega)
      rw [bs_list] at h
      exact h)
    have hxl : x.length ≤ 100000 := by
      have := lines_len s [] x hmem
      simp only [List.length_nil] at this
      have := HS.out
      omega
    obtain ⟨tx, htx⟩ : ∃ tx, Lib.trimSuffix x [10] = tx := ⟨_, rfl⟩
    rw [htx] at hrd hfw htr
    have hrx : rd x = if (rdf tx).ok = true ∧ taskB (rdf tx) = x then some (rdf tx) else none := by rw [← HRD.out]; unfold rdOf; rw [htx]
    obtain ⟨f, hf⟩ : ∃ f, rdf tx = f := ⟨_, rfl⟩
    rw [hf] at hrd hfw hrx
    simp only [tkV] at hrd
    have HRF := Lib.hid hrd
    have HTR := Lib.hid htr
    have HRX := Lib.hid hrx
    have HFW := Lib.hid hfw
    obtain ⟨a, cap, rfl⟩ : ∃ a c, v = .slice a fs.length c := row_val h2
    have H1 := Lib.hid h1
    have H2 := Lib.hid h2
    have H3 := Lib.hid h3
    have H4 := Lib.hid h4
    have H5 := Lib.hid h5
    have H6 := Lib.hid h6
    have H8 := Lib.hid h8
    have H9 := Lib.hid h9
    have HA := Lib.hid ha
    obtain ⟨m, hm⟩ : ∃ m, fs.length = m := ⟨_, rfl⟩
    have hm64 : m ≤ 1000 := by rw [← hm]; exact h1.2
    rw [hm] at H2 H3
    have HM := Lib.hid hm
    have hmx : Tryz.prog.follows .mixedOrders = true := by kernel_rfl
    have d8 := (boxed_keep H8.out (Fr.refl [] W).drew (by simp)).cell
    have d8' := (boxed_keep H8.out ((Fr.refl [] W).alloc (.cells #[.int .i64 0, .int .i64 0, .int .i64 0, .int .i64 0, .int .i64 0, .int .i64 0, .int .i64 0, .int .i64 0] 58)) (by simp)).cell
    have MD := Lib.hid (show TkAt (W.alloc (.cells #[.int .i64 0, .int .i64 0, .int .i64 0, .int .i64 0, .int .i64 0, .int .i64 0, .int .i64 0, .int .i64 0] 58)).drew W.heap.size ⟨0, 0, 0, 0, 0, 0, 0, 0⟩ from TkAt.made W ⟨0, 0, 0, 0, 0, 0, 0, 0⟩)
    clear hrd hrx hfw htr h1 h2 h3 h4 h5 h6 h8 h9 ha hG hm h0 hmem htx hf
    rw [HZ.out]
    gi_wp2
    gi_cut [12] from 16 (fun s12 wc => ∃ B, s12 = .pointer (some ⟨B, 0, none⟩) ∧ TkAt wc B f ∧ Fr [] W wc ∧ W.heap.size ≤ B)
    case first =>
      gi_region_with_o (first
        | ((first | refine ⟨trivial, ?_⟩ | skip); gi_at_call 94; refine (CallsIn.inRound l (callsIn_wide.2 (HTR.out _))).mono ?_; rintro e w' ⟨rfl, rfl⟩)
        | ((first | refine ⟨trivial, ?_⟩ | skip); gi_at_call 62; refine (CallsIn.inRound l (callsIn_wide.2 (HRF.out _ (by first | exact (Fr.refl [] W).drew | exact ((Fr.refl [] W).alloc _).drew)))).mono ?_; rintro e w1 ⟨rfl, g1⟩; (try have XB := MD.out.keep g1 (by simp)); (try have GB := Fr.step (((Fr.refl [] W).alloc (.cells #[.int .i64 0, .int .i64 0, .int .i64 0, .int .i64 0, .int .i64 0, .int .i64 0, .int .i64 0, .int .i64 0] 58)).drew) g1); (try have GA := Fr.step (Fr.refl [] W).drew g1); (try have XB0 := XB.c0; have XB1 := XB.c1; have XB2 := XB.c2; have XB3 := XB.c3; have XB4 := XB.c4; have XB5 := XB.c5; have XB6 := XB.c6; have XB7 := XB.c7; have XBz := XB.fz)))
      all_goals gi_wp2
      all_goals gi_meet
      case' rel => skip
      all_goals first
        | (have hga := GA; exact ⟨_, rfl, TkAt.made _ f, hga.alloc _, hga.size⟩)
        | (have hgb := GB; exact ⟨_, rfl, XB.setAll f, ((((((((GB).setCell (fun h => absurd h (Nat.lt_irrefl _)) _).setCell (fun h => absurd h (Nat.lt_irrefl _)) _).setCell (fun h => absurd h (Nat.lt_irrefl _)) _).setCell (fun h => absurd h (Nat.lt_irrefl _)) _).setCell (fun h => absurd h (Nat.lt_irrefl _)) _).setCell (fun h => absurd h (Nat.lt_irrefl _)) _).setCell (fun h => absurd h (Nat.lt_irrefl _)) _).setCell (fun h => absurd h (Nat.lt_irrefl _)) _, Nat.le_refl _⟩)
    case rest =>
      obtain ⟨B, rfl, hx0, g0, hB⟩ := hcut
      have X0 := Lib.hid hx0
      have G0 := Lib.hid g0
      have c8 := (boxed_keep H3.out g0 (by simp)).cell
      have z8 := (boxed_keep H3.out g0 (by simp)).frozen
      have c9 := (boxed_keep H4.out g0 (by simp)).cell
      have z9 := (boxed_keep H4.out g0 (by simp)).frozen
      have c10 := (boxed_keep H5.out g0 (by simp)).cell
      have z10 := (boxed_keep H5.out g0 (by simp)).frozen
      clear hx0 g0 d8 d8' MD HRF HTR
      by_cases h64 : m = 1000
      · subst h64
        gi_wp2
        exact tk_ret HN.out (fun rest => H1.out.full HM.out x rest) H4.out H5.out H3.out H6.out hWN G0.out
      have h64' : ((m : Int) == 1000) = false := by rw [beq_eq_false_iff_ne]; omega
      have c6 := (boxed_keep H9.out G0.out (by simp)).cell
      have xc0 := X0.out.c0
      have xc1 := X0.out.c1
      have xc2 := X0.out.c2
      have xc3 := X0.out.c3
      have xc4 := X0.out.c4
      have xc5 := X0.out.c5
      have xc6 := X0.out.c6
      have xc7 := X0.out.c7
      cases hok : f.ok with
      | false =>
        have hn : rd x = none := by rw [HRX.out, hok]; rfl
        have HV := Lib.hid (fun W' => tkValidC f W')
        rw [hok] at HV
        have HN2 := Lib.hid hn
        clear hok hn
        gi_wp2_with (first | (refine ⟨fun _ h => (by cases h), ?_⟩; go_at_K) | (refine ⟨trivial, ?_⟩; gi_at_call 49; refine (CallsIn.inRound l (callsIn_wide.2 (HV.out _))).mono ?_; rintro e w2 ⟨rfl, g2⟩; have GG := G0.out.step g2; have e8 := (boxed_keep H3.out GG (by simp)).cell; have y8 := (boxed_keep H3.out GG (by simp)).frozen; have e9 := (boxed_keep H4.out GG (by simp)).cell; have y9 := (boxed_keep H4.out GG (by simp)).frozen; have e10 := (boxed_keep H5.out GG (by simp)).cell; have y10 := (boxed_keep H5.out GG (by simp)).frozen))
        have hret := tk_ret (a := ⟨#[], []⟩) HN.out (fun rest => H1.out.bad (by rw [HM.out]; exact h64) HN2.out rest) H4.out H5.out H3.out H6.out hWN GG
        rw [HM.out] at hret
        exact hret
      | true =>
        have HV := Lib.hid (fun W' => tkValidC f W')
        rw [hok] at HV
        have HLI := Lib.hid (fun W' (g : Fr [] W W') => tkLineC f HFW.out hok W' (tab_new HT.out (H6.out.step g)))
        by_cases hln : taskB f = x
        · have hn : rd x = some f := by rw [HRX.out, hok, if_pos ⟨rfl, hln⟩]
          have HN2 := Lib.hid hn
          rw [hln] at HLI
          clear hok hn hln
          gi_wp2_with (first
            | (refine ⟨trivial, ?_⟩; gi_at_call 49; refine (CallsIn.inRound l (callsIn_wide.2 (HV.out _))).mono ?_; rintro e w2 ⟨rfl, g2⟩; have GG := G0.out.step g2; have c7 := (boxed_keep HA.out GG (by simp)).cell; have X2 := X0.out.keep g2 (by simp); have xd0 := X2.c0; have xd1 := X2.c1; have xd2 := X2.c2; have xd3 := X2.c3; have xd4 := X2.c4; have xd5 := X2.c5; have xd6 := X2.c6; have xd7 := X2.c7)
            | (refine ⟨trivial, ?_⟩; gi_at_call 50; refine (CallsIn.inRound l (callsIn_wide.2 (HLI.out _ GG))).mono ?_; rintro e w3 ⟨rfl, g3⟩; have GH := GG.step g3; have e8 := (boxed_keep H3.out GH (by simp)).cell; have y8 := (boxed_keep H3.out GH (by simp)).frozen; have X3 := X2.keep g3 (by simp); have xe0 := X3.c0; have xe1 := X3.c1; have xe2 := X3.c2; have xe3 := X3.c3; have xe4 := X3.c4; have xe5 := X3.c5; have xe6 := X3.c6; have xe7 := X3.c7; have GI := GH.alloc (.cells #[.int .i64 f.t, .int .i64 f.calls, .int .i64 f.refused, .int .i64 f.steps, .int .i64 f.ended, .int .i64 f.failed, .int .i64 f.read, .int .i64 f.written] 58); have i8 := (boxed_keep H3.out GI (by simp)).cell; have k8 := (boxed_keep H3.out GI (by simp)).frozen)
            | (gi_at_builtin; refine wpListIn_append_own _ rfl _ _ 52 rfl (N + 7) 58 i0 _ 8 64 Tryz.underlying52 hi hz0 hz1 hz2 rfl (by omega) _ _ _ rfl (row_fr H2.out GI) ⟨w3.heap.size, 0, none⟩ 1 1 (tkVals f) rfl rfl (tkVals_new w3 f) (tkVals_one f) (by unfold maxLen; omega) (by omega) (by have := GI.size; omega) ?_; intro v' w4 hown' hgrow hnil; obtain ⟨a', cap', rfl⟩ := row_val' hown'; have r2 := row_fr H2.out GI; have b3 := grown_box' (boxed_keep H3.out GI (by simp)) r2 (by omega) hgrow; have e4 := b3.cell; have y4 := b3.frozen; have HGR := Lib.hid hgrow; have HOW := Lib.hid hown'; clear hgrow hown' hnil r2 b3))
          exact tk_more HM.out HN.out H1.out h64 HN2.out H2.out H3.out H4.out H5.out H8.out H9.out HA.out H6.out hWN GI HGR.out HOW.out
        · have hn : rd x = none := by rw [HRX.out, if_neg (fun h => hln h.2)]
          have HN2 := Lib.hid hn
          have hne : ((bs (taskB f)).toList == (bs x).toList) = false := by rw [toList_bs, toList_bs, beq_eq_false_iff_ne]; exact hln
          clear hok hn hln
          gi_wp2_with (first
            | (refine ⟨trivial, ?_⟩; gi_at_call 49; refine (CallsIn.inRound l (callsIn_wide.2 (HV.out _))).mono ?_; rintro e w2 ⟨rfl, g2⟩; have GG := G0.out.step g2; have c7 := (boxed_keep HA.out GG (by simp)).cell; have X2 := X0.out.keep g2 (by simp); have xd0 := X2.c0; have xd1 := X2.c1; have xd2 := X2.c2; have xd3 := X2.c3; have xd4 := X2.c4; have xd5 := X2.c5; have xd6 := X2.c6; have xd7 := X2.c7)
            | (refine ⟨trivial, ?_⟩; gi_at_call 50; refine (CallsIn.inRound l (callsIn_wide.2 (HLI.out _ GG))).mono ?_; rintro e w3 ⟨rfl, g3⟩; have GH := GG.step g3; have e8 := (boxed_keep H3.out GH (by simp)).cell; have y8 := (boxed_keep H3.out GH (by simp)).frozen; have e9 := (boxed_keep H4.out GH (by simp)).cell; have y9 := (boxed_keep H4.out GH (by simp)).frozen; have e10 := (boxed_keep H5.out GH (by simp)).cell; have y10 := (boxed_keep H5.out GH (by simp)).frozen))
          have hret := tk_ret (a := ⟨#[], []⟩) HN.out (fun rest => H1.out.bad (by rw [HM.out]; exact h64) HN2.out rest) H4.out H5.out H3.out H6.out hWN GH
          rw [HM.out] at hret
          exact hret
  case done =>
    intro D xs W hD hxs ⟨fs, v, h1, h2, h3, h4, h5, h8, h9, ha, h6, h7⟩ hK
    obtain ⟨a, cap, rfl⟩ := row_val h2
    have hy : parseL rd (linesGo [] s) [] = (fs, 0, 0) := by
      have := h1.1 []
      rw [List.append_nil, hxs] at this
      rw [this]
      rfl
    have HY := Lib.hid hy
    have hlt : ∀ g off n c, Value.slice a fs.length cap = .slice (some ⟨g, off, none⟩) n c → g ≠ D ∧ N + 7 ≤ g := by
      intro g off n c e
      have h8 := (TkRow.of h2).2 g off n c e
      refine ⟨?_, h8⟩
      rintro rfl
      have hr := h2.2
      rcases hr with ⟨e', _⟩ | ⟨g', cap', cur, e', _, hgb, _⟩
      · rw [e'] at e
        cases e
      · rw [e'] at e
        cases e
        rw [hK] at hgb
        cases hgb
    have hrow := (TkRow.of h2).1
    have c8 := h3.cell
    have z8 := h3.frozen
    have c9 := h4.cell
    have z9 := h4.frozen
    have c10 := h5.cell
    have z10 := h5.frozen
    rw [hz] at hD
    have H2 := Lib.hid hrow
    have H3 := Lib.hid h3
    have H4 := Lib.hid h4
    have H5 := Lib.hid h5
    have H6 := Lib.hid h6
    have HK := Lib.hid hK
    have HL := Lib.hid hlt
    clear h1 h2 h3 h4 h5 h6 hK hlt hy hxs hrow h0 h8 h9 ha
    gi_wp2
    rw [HY.out]
    have f7 : Fr [N + 1 + 1 + 1, N + 1 + 1 + 1 + 1, N + 1 + 1 + 1 + 1 + 1] W (((W.setCell ⟨N + 1 + 1 + 1, 0, none⟩ (.slice a fs.length cap)).setCell ⟨N + 1 + 1 + 1 + 1, 0, none⟩ (.int .i64 0)).setCell ⟨N + 1 + 1 + 1 + 1 + 1, 0, none⟩ (.int .i64 0)) := (((Fr.refl _ _).setCell (fun _ => by simp) _).setCell (fun _ => by simp) _).setCell (fun _ => by simp) _
    exact tkEnd _ (fs, 0, 0) w _ (.slice a fs.length cap) N D rfl rfl rfl ((f7.block D (Array.getElem?_eq_some_iff.1 HK.out).1 (by simp; omega)).trans HK.out) (by omega) (by omega) (((H3.out.set _).other (by omega) _).other (by omega) _) (((H4.out.other (by omega) _).set _).other (by omega) _) (((H5.out.other (by omega) _).other (by omega) _).set _)
      (H2.out.keep f7 (fun g off n c e => by have := (HL.out g off n c e).2; simp; omega)) (fun g off n c e => (HL.out g off n c e).1) (H6.out.trans f7 (fun x hx hl => by simp at hx; omega))
  case stop =>
    intro D pre W hD hp ⟨e, h1, h4, h5, h6, h7⟩ hK
    have hy : parseL rd (linesGo [] s) [] = ([], e, 6) := by
      obtain ⟨rest, hrest⟩ := hp
      rw [← hrest]
      exact h1 rest
    rw [hy]
    rw [hz] at hD
    have H4 := Lib.hid h4
    have H5 := Lib.hid h5
    have H6 := Lib.hid h6
    have H7 := Lib.hid h7
    have HK := Lib.hid hK
    clear h1 h4 h5 h6 h7 hK hy h0
    gi_wp2
    exact tkEnd _ ([], e, 6) w W (.slice none 0 0) N D rfl rfl rfl HK.out (by omega) (by omega) H4.out H5.out H6.out (.inl ⟨rfl, _, _, rfl⟩) (fun g off n c e => by cases e) H7.out
end Go.Proofs.YtllmejkcohfbiaaGreatDoor
namespace Go.Proofs.YtllmejkcohfbiaaGreatDoor
open Go.RowKit Go.Shelf Go.Sort Go.Lib
set_option linter.unusedVariables false
set_option linter.unusedSimpArgs false
set_option maxRecDepth 100000
set_option maxHeartbeats 16000000

theorem ReadTasks_any (s : List UInt8) (hs : s.length ≤ 100000) (w : World) (he : EnvR w) :
    Calls Tryz.prog 26 #[.string (bs s)] w (TkPost w (rdTasks s)) := by
  have H := Lib.hid (tkLines_any (fun t => tkRead (splitS (remB t))) s hs w he.tab (fun x hx W hf => taskRead_any _ (by
    have h1 := trim_len x
    have h2 := lines_len s [] x hx
    simp only [List.length_nil] at h2
    omega) W (he.new hf)) (fun x hx => tkRead_wf _))
  unfold rdTasks
  generalize parseL (rdOf (fun t => tkRead (splitS (remB t))) Tk.ok taskB) (linesGo [] s) [] = y at H ⊢
  obtain ⟨y1, y2, y3⟩ := y
  clear he
  go_enter Tryz.func26, Tryz.ntmps26
  go_wp2_with fail
  refine H.out.mono ?_
  rintro e w1 ⟨v, rfl, hr, f1⟩
  simp only at hr
  have HR := Lib.hid hr
  clear hr
  go_wp2
  go_ret3
  exact ⟨v, rfl, HR.out, f1⟩
end Go.Proofs.YtllmejkcohfbiaaGreatDoor
