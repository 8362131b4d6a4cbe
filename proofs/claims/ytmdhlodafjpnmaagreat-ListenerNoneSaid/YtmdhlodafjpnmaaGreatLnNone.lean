/- The law ListenerNone's walk: it returns true at every address and numbers. -/
import Derived.Test.YtmdhlodafjpnmaaGreatLnKnown2
import Derived.Test.YtmdhlodafjpnmaaGreatNoN2
namespace Go.Proofs.YtmdhlodafjpnmaaGreat
open Go.RowKit
open Go.Maps (Keyed)
set_option linter.unusedVariables false
set_option maxRecDepth 100000
set_option maxHeartbeats 16000000

section
variable {v : Value} {w : World} (h : NoN w v)
include h
theorem listens_n (s : ByteArray) (p m : Int) :
    Calls Tryz.prog 10 #[v, .agg #[.string s, .int .i64 p], .int .i64 m, .int .i64 0, .agg #[.string ⟨#[]⟩, .int .i64 0], .int .i64 1] w fun e w' => e = .returned (.bool true) ∧ Fr [] w w' :=
  listens_t (Fr [] w) w s p m 0 ⟨#[]⟩ 0 1 (fun W hf => by
    refine (nonListen W s p m (h.new hf)).mono ?_
    rintro e w' ⟨rfl, f1⟩
    exact ⟨rfl, hf.step f1, FrK.new f1⟩) (fun W W' hq hf => hq.step hf)
theorem connects_n (s : ByteArray) (p m : Int) :
    Calls Tryz.prog 16 #[v, .agg #[.string s, .int .i64 p], .int .i64 m, .int .i64 0, .int .i64 1] w fun e w' => e = .returned (.bool true) ∧ Fr [] w w' :=
  connects_t (Fr [] w) w s p m 0 1 (fun W hf => by
    refine (nonConnect s p m W (h.new hf)).mono ?_
    rintro e w' ⟨rfl, f1⟩
    exact ⟨rfl, hf.step f1⟩)
theorem finds_n (s : ByteArray) (p : Int) :
    Calls Tryz.prog 23 #[v, .agg #[.string s, .int .i64 p], .int .i64 0, .int .i64 1] w fun e w' => e = .returned (.bool true) ∧ Fr [] w w' :=
  finds_t (Fr [] w) w s p 0 1 (fun W hf => by
    refine (nonFind W s p (h.new hf)).mono ?_
    rintro e w' ⟨rfl, f1⟩
    exact ⟨rfl, hf.step f1⟩)
theorem pairs_n (m : Int) :
    Calls Tryz.prog 14 #[v, .int .i64 m, .int .i64 0, .int .i64 1] w fun e w' => e = .returned (.bool true) ∧ Fr [] w w' :=
  pairs_t (Fr [] w) w m 0 1 (nonPair w m h)
theorem accepts_n (m : Int) :
    Calls Tryz.prog 21 #[v, .int .i64 m, .int .i64 0, .int .i64 1] w fun e w' => e = .returned (.bool true) ∧ Fr [] w w' :=
  accepts_t (Fr [] w) w m 0 1 (nonAccept w m h)
theorem closes_n (m : Int) :
    Calls Tryz.prog 22 #[v, .int .i64 m, .slice none 0 0, .int .i64 1] w fun e w' => e = .returned (.bool true) ∧ Fr [] w w' :=
  closes_t (Fr [] w) w m 1 _ [] (by
    refine (nonClose w m h).mono ?_
    rintro e w' ⟨rfl, f1⟩
    exact ⟨_, rfl, .inl ⟨rfl, _, _, rfl⟩, .inl ⟨rfl, _, _, rfl⟩, f1⟩) (fun W W' hq hf => hq.step hf)
end

/-- Between two calls: the address boxed, a net that is none, the slice of both. -/
structure NonS (w : World) (s : ByteArray) (p : Int) (wk : World) : Prop where
  non : NoN wk (.pointer (some ⟨w.heap.size + 1, 0, none⟩))
  c0 : wk.cell? ⟨w.heap.size, 0, none⟩ = some (.string s)
  c1 : wk.cell? ⟨w.heap.size, 1, none⟩ = some (.int .i64 p)
  s0 : wk.cell? ⟨w.heap.size + 1 + 1, 0, none⟩ = some (.pointer none)
  s1 : wk.cell? ⟨w.heap.size + 1 + 1, 1, none⟩ = some (.pointer (some ⟨w.heap.size + 1, 0, none⟩))
  fr : Fr [] w wk
theorem NonS.new {w wk w' : World} {s : ByteArray} {p : Int} (h : NonS w s p wk) (hf : Fr [] wk w') : NonS w s p w' :=
  ⟨h.non.new hf, hf.keep h.c0 (by simp), hf.keep h.c1 (by simp), hf.keep h.s0 (by simp), hf.keep h.s1 (by simp), h.fr.step hf⟩

theorem listenerNone_walk (s : ByteArray) (p ref m : Int) (w : World) :
    Calls Tryz.prog 4 #[.agg #[.string s, .int .i64 p], .int .i64 ref, .int .i64 m] w fun e w' => e = .returned (.bool true) ∧ Fr [] w w' := by
  go_enter Tryz.func4, Tryz.ntmps4
  go_wp2_with fail
  refine wp_loop_rounds 3 ?_
  rw [rounds_succ]
  go_wp2_with fail
  have S0 : NonS w s p (((w.alloc (.cells #[.string s, .int .i64 p] 28)).alloc (.cells #[.pointer none, .map none, .map none] 53)).alloc (.cells #[.pointer none, .pointer (some ⟨w.heap.size + 1, 0, none⟩)] 24)) :=
    ⟨.inr ⟨w.heap.size + 1, rfl, ((Fr.refl [] ((w.alloc (.cells #[.string s, .int .i64 p] 28)).alloc (.cells #[.pointer none, .map none, .map none] 53))).alloc _).keep (netCell _ _ _ 0 rfl (by simp) rfl) (by simp)⟩, (((Fr.refl [] (w.alloc (.cells #[.string s, .int .i64 p] 28))).alloc _).alloc _).keep (by simp) (by simp), (((Fr.refl [] (w.alloc (.cells #[.string s, .int .i64 p] 28))).alloc _).alloc _).keep (by simp) (by simp), netCell _ _ _ 0 rfl (by simp) rfl, netCell _ _ _ 1 rfl (by simp) rfl, (((Fr.refl [] w).alloc _).alloc _).alloc _⟩
  refine (nonConn _ ref (.inl rfl)).mono ?_
  rintro e v1 ⟨rfl, f1⟩
  have S1 := S0.new f1
  clear S0 f1
  have c0 := S1.c0
  have c1 := S1.c1
  have s0 := S1.s0
  have s1 := S1.s1
  go_wp2_with fail
  clear c0 c1 s0 s1
  refine (listens_n (.inl rfl) s p m).mono ?_
  rintro e v2 ⟨rfl, f2⟩
  have S2 := S1.new f2
  clear S1 f2
  have c0 := S2.c0
  have c1 := S2.c1
  have s0 := S2.s0
  have s1 := S2.s1
  go_wp2_with fail
  clear c0 c1 s0 s1
  refine (connects_n (.inl rfl) s p m).mono ?_
  rintro e v3 ⟨rfl, f3⟩
  have S3 := S2.new f3
  clear S2 f3
  have c0 := S3.c0
  have c1 := S3.c1
  have s0 := S3.s0
  have s1 := S3.s1
  go_wp2_with fail
  clear c0 c1 s0 s1
  refine (pairs_n (.inl rfl) m).mono ?_
  rintro e v4 ⟨rfl, f4⟩
  have S4 := S3.new f4
  clear S3 f4
  have c0 := S4.c0
  have c1 := S4.c1
  have s0 := S4.s0
  have s1 := S4.s1
  go_wp2_with fail
  clear c0 c1 s0 s1
  refine (accepts_n (.inl rfl) ref).mono ?_
  rintro e v5 ⟨rfl, f5⟩
  have S5 := S4.new f5
  clear S4 f5
  have c0 := S5.c0
  have c1 := S5.c1
  have s0 := S5.s0
  have s1 := S5.s1
  go_wp2_with fail
  clear c0 c1 s0 s1
  refine (closes_n (.inl rfl) ref).mono ?_
  rintro e v6 ⟨rfl, f6⟩
  have S6 := S5.new f6
  clear S5 f6
  have c0 := S6.c0
  have c1 := S6.c1
  have s0 := S6.s0
  have s1 := S6.s1
  go_wp2_with fail
  clear c0 c1 s0 s1
  refine (nonHang _ ref m (.inl rfl)).mono ?_
  rintro e v7 ⟨rfl, f7⟩
  have S7 := S6.new f7
  clear S6 f7
  have c0 := S7.c0
  have c1 := S7.c1
  have s0 := S7.s0
  have s1 := S7.s1
  go_wp2_with fail
  clear c0 c1 s0 s1
  refine (finds_n (.inl rfl) s p).mono ?_
  rintro e v8 ⟨rfl, f8⟩
  have S8 := S7.new f8
  clear S7 f8
  have c0 := S8.c0
  have c1 := S8.c1
  have s0 := S8.s0
  have s1 := S8.s1
  go_wp2_with fail
  clear c0 c1 s0 s1
  refine (nonListeners _ (.inl rfl)).mono ?_
  rintro e v9 ⟨rfl, f9⟩
  have S9 := S8.new f9
  clear S8 f9
  have c0 := S9.c0
  have c1 := S9.c1
  have s0 := S9.s0
  have s1 := S9.s1
  go_wp2_with fail
  clear c0 c1 s0 s1
  refine (nonConns _ (.inl rfl)).mono ?_
  rintro e v10 ⟨rfl, f10⟩
  have S10 := S9.new f10
  clear S9 f10
  have c0 := S10.c0
  have c1 := S10.c1
  have s0 := S10.s0
  have s1 := S10.s1
  go_wp2_with fail
  clear c0 c1 s0 s1
  refine (nonCopy _ (.inl rfl)).mono ?_
  rintro e v11 ⟨rfl, f11⟩
  have S11 := S10.new f11
  clear S10 f11
  have c0 := S11.c0
  have c1 := S11.c1
  have s0 := S11.s0
  have s1 := S11.s1
  go_wp2_with fail
  rw [rounds_succ]
  go_wp2_with fail
  clear c0 c1 s0 s1
  refine (nonConn _ ref S11.non).mono ?_
  rintro e v12 ⟨rfl, f12⟩
  have S12 := S11.new f12
  clear S11 f12
  have c0 := S12.c0
  have c1 := S12.c1
  have s0 := S12.s0
  have s1 := S12.s1
  go_wp2_with fail
  clear c0 c1 s0 s1
  refine (listens_n S12.non s p m).mono ?_
  rintro e v13 ⟨rfl, f13⟩
  have S13 := S12.new f13
  clear S12 f13
  have c0 := S13.c0
  have c1 := S13.c1
  have s0 := S13.s0
  have s1 := S13.s1
  go_wp2_with fail
  clear c0 c1 s0 s1
  refine (connects_n S13.non s p m).mono ?_
  rintro e v14 ⟨rfl, f14⟩
  have S14 := S13.new f14
  clear S13 f14
  have c0 := S14.c0
  have c1 := S14.c1
  have s0 := S14.s0
  have s1 := S14.s1
  go_wp2_with fail
  clear c0 c1 s0 s1
  refine (pairs_n S14.non m).mono ?_
  rintro e v15 ⟨rfl, f15⟩
  have S15 := S14.new f15
  clear S14 f15
  have c0 := S15.c0
  have c1 := S15.c1
  have s0 := S15.s0
  have s1 := S15.s1
  go_wp2_with fail
  clear c0 c1 s0 s1
  refine (accepts_n S15.non ref).mono ?_
  rintro e v16 ⟨rfl, f16⟩
  have S16 := S15.new f16
  clear S15 f16
  have c0 := S16.c0
  have c1 := S16.c1
  have s0 := S16.s0
  have s1 := S16.s1
  go_wp2_with fail
  clear c0 c1 s0 s1
  refine (closes_n S16.non ref).mono ?_
  rintro e v17 ⟨rfl, f17⟩
  have S17 := S16.new f17
  clear S16 f17
  have c0 := S17.c0
  have c1 := S17.c1
  have s0 := S17.s0
  have s1 := S17.s1
  go_wp2_with fail
  clear c0 c1 s0 s1
  refine (nonHang _ ref m S17.non).mono ?_
  rintro e v18 ⟨rfl, f18⟩
  have S18 := S17.new f18
  clear S17 f18
  have c0 := S18.c0
  have c1 := S18.c1
  have s0 := S18.s0
  have s1 := S18.s1
  go_wp2_with fail
  clear c0 c1 s0 s1
  refine (finds_n S18.non s p).mono ?_
  rintro e v19 ⟨rfl, f19⟩
  have S19 := S18.new f19
  clear S18 f19
  have c0 := S19.c0
  have c1 := S19.c1
  have s0 := S19.s0
  have s1 := S19.s1
  go_wp2_with fail
  clear c0 c1 s0 s1
  refine (nonListeners _ S19.non).mono ?_
  rintro e v20 ⟨rfl, f20⟩
  have S20 := S19.new f20
  clear S19 f20
  have c0 := S20.c0
  have c1 := S20.c1
  have s0 := S20.s0
  have s1 := S20.s1
  go_wp2_with fail
  clear c0 c1 s0 s1
  refine (nonConns _ S20.non).mono ?_
  rintro e v21 ⟨rfl, f21⟩
  have S21 := S20.new f21
  clear S20 f21
  have c0 := S21.c0
  have c1 := S21.c1
  have s0 := S21.s0
  have s1 := S21.s1
  go_wp2_with fail
  clear c0 c1 s0 s1
  refine (nonCopy _ S21.non).mono ?_
  rintro e v22 ⟨rfl, f22⟩
  have S22 := S21.new f22
  clear S21 f22
  have c0 := S22.c0
  have c1 := S22.c1
  have s0 := S22.s0
  have s1 := S22.s1
  go_wp2_with fail
  rw [rounds_succ]
  go_wp2_with fail
  clear c0 c1 s0 s1
  refine (known_true _).mono ?_
  rintro e w7 ⟨rfl, f8⟩
  go_wp2_with fail
  go_ret
  exact ⟨rfl, S22.fr.step f8⟩
end Go.Proofs.YtmdhlodafjpnmaaGreat
