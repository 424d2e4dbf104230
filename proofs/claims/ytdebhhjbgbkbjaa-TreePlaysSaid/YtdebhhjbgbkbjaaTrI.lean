/-
  slices.Delete and slices.Insert of keys, texts, pointers: they write into a row in hand.
  Conditions: none.
-/
import Derived.Test.YtdebhhjbgbkbjaaFz
import Derived.Test.YtdebhhjbgbkbjaaChecked
import Derived.KernelRfl
namespace Go.Proofs.Ytdebhhjbgbkbjaa.rows10
open Go.S
set_option linter.unusedVariables false
set_option linter.unusedSimpArgs false
theorem mixed : Try.prog.follows .mixedOrders = true := by kernel_rfl
theorem eL3 : elemB Try.prog 3 1 8 = true := by kernel_rfl
theorem sz3 : szB Try.prog 3 1 = true := by kernel_rfl
theorem ze3 : zeroB Try.prog 3 = some [.int .i64 0] := by kernel_rfl
theorem plain_map {α : Type} {row : α → List Value} (hpl : ∀ x : α, ∀ u ∈ row x, u.oneCell' = true) (l : List α) : Plain (l.map row) := by
  intro r hr u hu
  obtain ⟨x, _, rfl⟩ := List.mem_map.1 hr
  exact hpl x u hu
theorem zcOne : ∀ u ∈ ([Value.int .i64 0] : List Value), u.oneCell' = true := by intro u hu; simp only [List.mem_cons, List.not_mem_nil, or_false] at hu; rcases hu with rfl <;> rfl
theorem del_rows {β : Type} {R : List β} {a b : Nat} {z : β} {q : Nat} (ha : a ≤ R.length) : (((R.take a ++ R.drop b ++ R.drop (a + (R.drop b).length)).take (a + (R.drop b).length)) ++ List.replicate q z).take (a + (R.drop b).length) = R.take a ++ R.drop b := by
  have e : (R.take a ++ R.drop b).length = a + (R.drop b).length := by rw [List.length_append, List.length_take, Nat.min_eq_left ha]
  rw [← e, List.take_left, List.take_left]
theorem ins_rows1 {β : Type} {R Y : List β} {z : β} {a : Nat} (ha : a < R.length) (hy : Y.length = 1) :
    ((R.take a ++ List.replicate (R.length + 1 - a) z).take a ++ Y.take 1 ++ (R.take a ++ List.replicate (R.length + 1 - a) z).drop (a + 1)).take (a + 1) ++ (R.drop a).take (R.length - a) ++ ((R.take a ++ List.replicate (R.length + 1 - a) z).take a ++ Y.take 1 ++ (R.take a ++ List.replicate (R.length + 1 - a) z).drop (a + 1)).drop (a + 1 + (R.length - a)) = R.take a ++ Y ++ R.drop a := by
  have e1 : (R.take a).length = a := by rw [List.length_take]; omega
  have e2 : (R.take a ++ List.replicate (R.length + 1 - a) z).take a = R.take a := List.take_left' e1
  have e3 : Y.take 1 = Y := List.take_of_length_le (by omega)
  have e4 : (R.take a ++ Y).length = a + 1 := by rw [List.length_append, e1, hy]
  have e5 : (R.drop a).take (R.length - a) = R.drop a := List.take_of_length_le (by rw [List.length_drop]; omega)
  have e6 : (R.take a ++ Y ++ (R.take a ++ List.replicate (R.length + 1 - a) z).drop (a + 1)).drop (a + 1 + (R.length - a)) = [] := List.drop_eq_nil_of_le (by simp only [List.length_append, List.length_drop, List.length_replicate, e1, hy]; omega)
  rw [e2, e3, e5, List.take_left' e4, e6, List.append_nil]
theorem ins_rows2 {β : Type} {R X Y : List β} {a : Nat} (ha : a < R.length) (hy : Y.length = 1) (hx : X.length = R.length + 1 - R.length) :
    ((R ++ X).take (a + 1) ++ ((R ++ X).drop a).take (R.length - a) ++ (R ++ X).drop (a + 1 + (R.length - a))).take a ++ Y.take 1 ++ ((R ++ X).take (a + 1) ++ ((R ++ X).drop a).take (R.length - a) ++ (R ++ X).drop (a + 1 + (R.length - a))).drop (a + 1) = R.take a ++ Y ++ R.drop a := by
  have e3 : Y.take 1 = Y := List.take_of_length_le (by omega)
  have e6 : ((R ++ X).drop a).take (R.length - a) = R.drop a := by
    rw [List.drop_append_of_le_length (by omega), List.take_left' (by rw [List.length_drop])]
  have e7 : (R ++ X).drop (a + 1 + (R.length - a)) = [] := List.drop_eq_nil_of_le (by rw [List.length_append]; omega)
  have e8 : ((R ++ X).take (a + 1)).length = a + 1 := by rw [List.length_take, List.length_append]; omega
  have e9 : ((R ++ X).take (a + 1) ++ R.drop a).take a = R.take a := by
    rw [List.take_append_of_le_length (by rw [e8]; omega), List.take_take, Nat.min_eq_left (by omega), List.take_append_of_le_length (by omega)]
  rw [e6, e7, List.append_nil, e3, e9, List.drop_left' e8]
theorem copied {β : Type} {R X : List β} {a q : Nat} {r : β} (ha : a ≤ R.length) (hq : q = R.length - a) (hr : r ∈ ((R ++ X).drop a).take q) : r ∈ R := by
  rw [List.drop_append_of_le_length ha, List.take_left' (by rw [List.length_drop, hq])] at hr
  exact List.mem_of_mem_drop hr
theorem lit_at {α : Type} {row : α → List Value} {x : α} {b : Nat} {e : TypeId} {w : World} (hrow : ∀ x : α, (row x).length = 1) (h : w.heap[b]? = some (.cells (row x).toArray e (0, 0))) : At w (sv b 1) 1 ([x].map row) := by
  refine ⟨.inr ⟨⟨b, 0, none⟩, 1, rfl, by simp, by simp [maxLen]⟩, ?_, ?_⟩
  · intro r hr
    simp only [List.map_cons, List.map_nil, List.mem_singleton] at hr
    rw [hr, hrow]
  · intro i r j y h1 h2
    cases i with
    | zero =>
      simp only [List.map_cons, List.map_nil, List.getElem?_cons_zero, Option.some.injEq] at h1
      subst h1
      simp [adr, sv, World.cell?, h, Addr.add_lit, h2]
    | succ i => simp at h1
set_option maxRecDepth 100000 in
set_option maxHeartbeats 8000000 in
theorem delWalk {α : Type} {row : α → List Value} (hrow : ∀ x : α, (row x).length = 1) (hpl : ∀ x : α, ∀ u ∈ row x, u.oneCell' = true) (l : List α) (g cap a b : Nat) (w : World) (hab : a < b) (hb : b ≤ l.length) (hc : l.length ≤ cap) (hl : l.length ≤ 1000000000) (hw : Cls w [g] [.sl (rv g l.length cap) 3 1 (l.map row)] w) :
    Calls Try.prog 8 [rv g l.length cap, .int .i64 (a : Nat), .int .i64 (b : Nat)].toArray w fun en w' => ∃ v', en = .returned v' ∧ Cls w [g] [.sl v' 3 1 ((l.take a ++ l.drop b).map row)] w' := by
  have plainL : Plain (l.map row) := plain_map hpl l
  refine body (n := 33) Try.func8 rfl rfl rfl hw ?_
  refine W.seq (W.region (L.y rfl (Y.assign rfl) ?_))
  refine L.nil (E.thenN (W.seq (W.region (L.y rfl (Y.move rfl) ?_))))
  refine L.y rfl (Y.move rfl) ?_
  refine L.y rfl (Y.move rfl) ?_
  refine L.y rfl (Y.move rfl) ?_
  refine L.y rfl (Y.lenC Try.underlying25 rfl) ?_
  refine L.y rfl (Y.slice3C (lo := a) (hi := b) (mx := l.length) Try.underlying25 sz3 rfl rfl rfl rfl (by first | omega | (simp only [List.length_drop, List.length_take, List.length_append, List.length_map, List.length_replicate, List.length_singleton, *] <;> omega)) (by first | omega | (simp only [List.length_drop, List.length_take, List.length_append, List.length_map, List.length_replicate, List.length_singleton, *] <;> omega)) (by first | omega | (simp only [List.length_drop, List.length_take, List.length_append, List.length_map, List.length_replicate, List.length_singleton, *] <;> omega))) ?_
  refine L.nil (E.thenN (W.seq (W.seq (W.region (L.y rfl (Y.move rfl) ?_)))))
  refine L.y rfl (Y.move rfl) ?_
  refine L.y rfl (Y.as (congrArg Value.bool (decide_eq_false (by omega))) (Y.eql rfl rfl)) ?_
  refine L.nil (E.thenN (W.condF rfl ?_))
  refine W.skip (E.thenN (W.seq (W.region (L.y rfl (Y.move rfl) ?_))))
  refine L.y rfl (Y.lenC Try.underlying25 rfl) ?_
  refine L.y rfl (Y.assign rfl) ?_
  refine L.nil (E.thenN (W.seq (W.drawn2 (k := 8) (stC [[6]] [Cls w [g] [.sl (rv g l.length cap) 3 1 (l.map row)]] (Cls w [g] [])) rfl mixed (fun _ hw => hw.drew) (Sc.now (by kernel_rfl) (fun _ hw => hw)) ?_)))
  refine V2.y (i := 0) (Nx2.of (Z := Cls w [g] []) [] (by kernel_rfl) rfl (Zc.on (fun _ hw => hw.sel [] (by decide) rfl) (Zc.fin (fun _ hw => hw)))) rfl rfl rfl (Y.move rfl) ?_
  refine V2.y (i := 1) (Nx2.of (Z := Cls w [g] []) [] (by kernel_rfl) rfl (Zc.on (fun _ hw => hw.sel [] (by decide) rfl) (Zc.fin (fun _ hw => hw)))) rfl rfl rfl (Y.move rfl) ?_
  refine V2.y (i := 2) (Nx2.of (Z := Cls w [g] [.sl (rv g l.length cap) 3 1 (l.map row)]) [6] (by kernel_rfl) rfl (Zc.at1 (fun _ hw => hw))) rfl rfl rfl (Y.sliceHC (hi := a) Try.underlying25 sz3 rfl rfl (by first | omega | (simp only [List.length_drop, List.length_take, List.length_append, List.length_map, List.length_replicate, List.length_singleton, *] <;> omega))) ?_
  refine V2.y (i := 3) (Nx2.of (Z := Cls w [g] []) [] (by kernel_rfl) rfl (Zc.on (fun _ hw => hw.sel [] (by decide) rfl) (Zc.fin (fun _ hw => hw)))) rfl rfl rfl (Y.move rfl) ?_
  refine V2.y (i := 4) (Nx2.of (Z := Cls w [g] []) [] (by kernel_rfl) rfl (Zc.on (fun _ hw => hw.sel [] (by decide) rfl) (Zc.fin (fun _ hw => hw)))) rfl rfl rfl (Y.move rfl) ?_
  refine V2.y (i := 5) (Nx2.of (Z := Cls w [g] [.sl (rv g l.length cap) 3 1 (l.map row)]) [6] (by kernel_rfl) rfl (Zc.at1 (fun _ hw => hw))) rfl rfl rfl (Y.sliceLC (lo := b) Try.underlying25 sz3 rfl rfl (by first | omega | (simp only [List.length_drop, List.length_take, List.length_append, List.length_map, List.length_replicate, List.length_singleton, *] <;> omega))) ?_
  refine V2.eff (i := 6) (by kernel_rfl) rfl ?_
  refine L.appOver (i := 0) (a := a) (news := (l.map row).drop b) rfl Try.underlying25 eL3 rfl rfl rfl (fun w hw => At.sliced (As.at_ (hw.get (i := 0) rfl)) (by first | omega | (simp only [List.length_drop, List.length_take, List.length_append, List.length_map, List.length_replicate, List.length_singleton, *] <;> omega))) (by first | omega | (simp only [List.length_drop, List.length_take, List.length_append, List.length_map, List.length_replicate, List.length_singleton, *] <;> omega)) (by first | omega | (simp only [List.length_drop, List.length_take, List.length_append, List.length_map, List.length_replicate, List.length_singleton, *] <;> omega)) (fun r hr => plainL r (List.mem_of_mem_drop hr)) ?_
  refine L.nil (E.toV2 (stC [] [] (Cls w [g] [])) 6 (by kernel_rfl) (Sc.past rfl (Sc.stayD (fun _ hw => hw))) (Sc.atD (fun _ hw => hw.sel [] (by decide) rfl)) ?_)
  refine V2.y (i := 7) (Nx2.of (Z := Cls w [g] []) [] (by kernel_rfl) rfl (Zc.fin (fun _ hw => hw))) rfl rfl rfl (Y.assign rfl) ?_
  refine V2.done (by kernel_rfl) ?_
  refine E.thenN (W.seq (W.region (L.y rfl (Y.move rfl) ?_)))
  refine L.y rfl (Y.move rfl) ?_
  refine L.y rfl (Y.lenC Try.underlying25 rfl) ?_
  refine L.y rfl (Y.move rfl) ?_
  refine L.y rfl (Y.sliceLHC (lo := a + ((l.map row).drop b).length) (hi := l.length) Try.underlying25 sz3 rfl rfl rfl (by first | omega | (simp only [List.length_drop, List.length_take, List.length_append, List.length_map, List.length_replicate, List.length_singleton, *] <;> omega)) (by first | omega | (simp only [List.length_drop, List.length_take, List.length_append, List.length_map, List.length_replicate, List.length_singleton, *] <;> omega))) ?_
  refine L.clear (i := 0) (v := rv g l.length cap) (rows := ((l.map row).take a ++ (l.map row).drop b ++ (l.map row).drop (a + ((l.map row).drop b).length))) (a := a + ((l.map row).drop b).length) Try.underlying25 eL3 ze3 (fun u hu => zcOne u hu) (congrArg some (sliced_drop (by first | omega | (simp only [List.length_drop, List.length_take, List.length_append, List.length_map, List.length_replicate, List.length_singleton, *] <;> omega)) (by first | omega | (simp only [List.length_drop, List.length_take, List.length_append, List.length_map, List.length_replicate, List.length_singleton, *] <;> omega)))) rfl (by first | omega | (simp only [List.length_drop, List.length_take, List.length_append, List.length_map, List.length_replicate, List.length_singleton, *] <;> omega)) ?_
  refine L.nil (E.thenN (W.seq (W.region (L.y rfl (Y.move rfl) ?_))))
  refine L.y rfl (Y.assign rfl) ?_
  refine L.nil (E.thenN (W.ret (E.ret1 rfl rfl (fun w1 hw => ?_))))
  exact ⟨_, rfl, by have h9 := hw.shrink (i := 0) (N' := a + (List.drop b (l.map row)).length) rfl (by simp only [List.length_append, List.length_take, List.length_drop, List.length_map, List.length_replicate]; omega); rw [del_rows (by rw [List.length_map]; omega)] at h9; simpa using h9⟩
set_option maxRecDepth 100000 in
set_option maxHeartbeats 8000000 in
theorem insEnd {α : Type} {row : α → List Value} (hrow : ∀ x : α, (row x).length = 1) (hpl : ∀ x : α, ∀ u ∈ row x, u.oneCell' = true) (l : List α) (x : α) (g cap a : Nat) (v : Value) (w : World) (b : Nat) (hlit : w.heap[b]? = some (.cells (row x).toArray 3 (0, 0))) (hbg : b ≠ g) (ha : a = l.length) (hl : l.length ≤ 1000000000) (hw : Cls w [g] [.sl v 3 1 (l.map row)] w) :
    Calls Try.prog 10 [v, .int .i64 (a : Nat), sv b 1].toArray w fun en w' => ∃ v', en = .returned v' ∧ Cls w [g] [.sl v' 3 1 ((l.take a ++ [x] ++ l.drop a).map row)] w' := by
  have litAt : At w (sv b 1) 1 ([x].map row) := lit_at (e := 3) hrow hlit
  have hub : (adr (sv b 1)).block ∉ [g] := by simpa [adr, sv] using hbg
  have litPlain : Plain ([x].map row) := plain_map hpl [x]
  have litPlainT : Plain (([x].map row).take 1) := litPlain
  have plainL : Plain (l.map row) := plain_map hpl l
  refine body (n := 95) Try.func10 rfl rfl rfl hw ?_
  refine W.seq (W.region (L.y rfl (Y.assign rfl) ?_))
  refine L.nil (E.thenN (W.seq (W.region (L.y rfl (Y.move rfl) ?_))))
  refine L.y rfl (Y.move rfl) ?_
  refine L.y rfl (Y.dropA Try.underlying25 sz3 rfl rfl (fun w hw => As.at_ (hw.get (i := 0) rfl)) (by first | omega | (simp only [List.length_drop, List.length_take, List.length_append, List.length_map, List.length_replicate, List.length_singleton, *] <;> omega)) (by simp; omega)) ?_
  refine L.nil (E.thenN (W.seq (W.region (L.y rfl (Y.move rfl) ?_))))
  refine L.y rfl (Y.lenC Try.underlying25 rfl) ?_
  refine L.y rfl (Y.assign rfl) ?_
  refine L.nil (E.thenN (W.seq (W.seq (W.region (L.y rfl (Y.move rfl) ?_)))))
  refine L.y rfl (Y.as (congrArg Value.bool (decide_eq_false (by omega))) (Y.eql rfl rfl)) ?_
  refine L.nil (E.thenN (W.condF rfl ?_))
  refine W.skip (E.thenN (W.seq (W.region (L.y rfl (Y.move rfl) ?_))))
  refine L.y rfl (Y.lenM (g := row) (l := l) Try.underlying25 rfl (fun w hw => As.at_ (hw.get (i := 0) rfl))) ?_
  refine L.y rfl (Y.assign rfl) ?_
  refine L.nil (E.thenN (W.seq (W.seq (W.region (L.y rfl (Y.move rfl) ?_)))))
  refine L.y rfl (Y.move rfl) ?_
  refine L.y rfl (Y.as (congrArg Value.bool (decide_eq_true (by omega))) (Y.eql rfl rfl)) ?_
  refine L.nil (E.thenN (W.condT rfl ?_))
  refine W.seq (W.region (L.y rfl (Y.move rfl) ?_))
  refine L.y rfl (Y.move rfl) ?_
  refine L.append (i := 0) rfl Try.underlying25 eL3 rfl rfl rfl (fun w hw => litAt.cls hw hub) litPlain (by simp only [maxLen, List.length_map, List.length_singleton]; omega) (by simp only [List.length_map, List.length_singleton]; omega) (fun v2 => ?_)
  refine L.y rfl (Y.assign rfl) ?_
  refine L.nil (E.thenN (W.ret (E.thenR (E.ret1 rfl rfl (fun w1 hw => ?_)))))
  exact ⟨_, rfl, by subst ha; simpa using hw⟩
set_option maxRecDepth 100000 in
set_option maxHeartbeats 8000000 in
theorem insGrow {α : Type} {row : α → List Value} (hrow : ∀ x : α, (row x).length = 1) (hpl : ∀ x : α, ∀ u ∈ row x, u.oneCell' = true) (l : List α) (x : α) (g cap a : Nat) (v : Value) (w : World) (b : Nat) (hlit : w.heap[b]? = some (.cells (row x).toArray 3 (0, 0))) (hbg : b ≠ g) (ha : a < l.length) (hc : l.length ≤ cap) (hg : cap < l.length + 1) (hl : l.length ≤ 1000000000) (hw : Cls w [g] [.sl (rv g l.length cap) 3 1 (l.map row)] w) :
    Calls Try.prog 10 [rv g l.length cap, .int .i64 (a : Nat), sv b 1].toArray w fun en w' => ∃ v', en = .returned v' ∧ Cls w [g] [.sl v' 3 1 ((l.take a ++ [x] ++ l.drop a).map row)] w' := by
  have litAt : At w (sv b 1) 1 ([x].map row) := lit_at (e := 3) hrow hlit
  have hub : (adr (sv b 1)).block ∉ [g] := by simpa [adr, sv] using hbg
  have litPlain : Plain ([x].map row) := plain_map hpl [x]
  have litPlainT : Plain (([x].map row).take 1) := litPlain
  have plainL : Plain (l.map row) := plain_map hpl l
  refine body (n := 95) Try.func10 rfl rfl rfl hw ?_
  refine W.seq (W.region (L.y rfl (Y.assign rfl) ?_))
  refine L.nil (E.thenN (W.seq (W.region (L.y rfl (Y.move rfl) ?_))))
  refine L.y rfl (Y.move rfl) ?_
  refine L.y rfl (Y.sliceLC (lo := a) Try.underlying25 sz3 rfl rfl (by first | omega | (simp only [List.length_drop, List.length_take, List.length_append, List.length_map, List.length_replicate, List.length_singleton, *] <;> omega))) ?_
  refine L.nil (E.thenN (W.seq (W.region (L.y rfl (Y.move rfl) ?_))))
  refine L.y rfl (Y.lenC Try.underlying25 rfl) ?_
  refine L.y rfl (Y.assign rfl) ?_
  refine L.nil (E.thenN (W.seq (W.seq (W.region (L.y rfl (Y.move rfl) ?_)))))
  refine L.y rfl (Y.as (congrArg Value.bool (decide_eq_false (by omega))) (Y.eql rfl rfl)) ?_
  refine L.nil (E.thenN (W.condF rfl ?_))
  refine W.skip (E.thenN (W.seq (W.region (L.y rfl (Y.move rfl) ?_))))
  refine L.y rfl (Y.lenC Try.underlying25 rfl) ?_
  refine L.y rfl (Y.assign rfl) ?_
  refine L.nil (E.thenN (W.seq (W.seq (W.region (L.y rfl (Y.move rfl) ?_)))))
  refine L.y rfl (Y.move rfl) ?_
  refine L.y rfl (Y.as (congrArg Value.bool (decide_eq_false (by omega))) (Y.eql rfl rfl)) ?_
  refine L.nil (E.thenN (W.condF rfl ?_))
  refine W.skip (E.thenN (W.seq (W.seq (W.region (L.y rfl (Y.move rfl) ?_)))))
  refine L.y rfl (Y.move rfl) ?_
  refine L.y rfl (Y.addN (p := l.length) (r := 1) rfl rfl (by omega)) ?_
  refine L.y rfl (Y.move rfl) ?_
  refine L.y rfl (Y.capC Try.underlying25 rfl) ?_
  refine L.y rfl (Y.as (congrArg Value.bool (decide_eq_true (by omega))) (Y.gtr rfl rfl)) ?_
  refine L.nil (E.thenN (W.condT rfl ?_))
  refine W.seq (W.region (L.y rfl (Y.move rfl) ?_))
  refine L.y rfl (Y.move rfl) ?_
  refine L.y rfl (Y.sliceHC (hi := a) Try.underlying25 sz3 rfl rfl (by first | omega | (simp only [List.length_drop, List.length_take, List.length_append, List.length_map, List.length_replicate, List.length_singleton, *] <;> omega))) ?_
  refine L.y rfl (Y.move rfl) ?_
  refine L.y rfl (Y.move rfl) ?_
  refine L.y rfl (Y.addN (p := l.length) (r := 1) rfl rfl (by omega)) ?_
  refine L.y rfl (Y.move rfl) ?_
  refine L.y rfl (Y.subN (p := l.length + 1) (r := a) rfl rfl (by omega) (by omega)) ?_
  refine L.appFreshZ (i := 0) (a := a) (cnt := (l.length + 1) - a) rfl Try.underlying25 Try.underlying3 eL3 ze3 rfl rfl rfl (by first | omega | (simp only [List.length_drop, List.length_take, List.length_append, List.length_map, List.length_replicate, List.length_singleton, *] <;> omega)) (by first | omega | (simp only [List.length_drop, List.length_take, List.length_append, List.length_map, List.length_replicate, List.length_singleton, *] <;> omega)) (by simp only [maxLen]; omega) (by first | omega | (simp only [List.length_drop, List.length_take, List.length_append, List.length_map, List.length_replicate, List.length_singleton, *] <;> omega)) (by first | omega | (simp only [List.length_drop, List.length_take, List.length_append, List.length_map, List.length_replicate, List.length_singleton, *] <;> omega)) (fun g2 cap2 hc2 => ?_)
  refine L.y rfl (Y.assign rfl) ?_
  refine L.nil (E.thenN (W.seq (W.region (L.y rfl (Y.move rfl) ?_))))
  refine L.y rfl (Y.move rfl) ?_
  refine L.y rfl (Y.sliceLC (lo := a) Try.underlying25 sz3 rfl rfl (by first | omega | (simp only [List.length_drop, List.length_take, List.length_append, List.length_map, List.length_replicate, List.length_singleton, *] <;> omega))) ?_
  refine L.y rfl (Y.move rfl) ?_
  refine L.copyAt (i := 0) (a := a) (N := a + ((l.length + 1) - a)) (cap := cap2) (more := ([x].map row)) (q := 1) rfl Try.underlying25 eL3 rfl rfl rfl (fun w hw => litAt.cls hw hub) (by first | omega | (simp only [List.length_drop, List.length_take, List.length_append, List.length_map, List.length_replicate, List.length_singleton, *] <;> omega)) (by first | omega | (simp only [List.length_drop, List.length_take, List.length_append, List.length_map, List.length_replicate, List.length_singleton, *] <;> omega)) (by first | omega | (simp only [List.length_drop, List.length_take, List.length_append, List.length_map, List.length_replicate, List.length_singleton, *] <;> omega)) (litPlainT) (fun v3 => ?_)
  refine L.nil (E.thenN (W.seq (W.drawn2 (k := 9) (stC [[8]] [Cls w [g] [.sl (rv g2 (a + ((l.length + 1) - a)) cap2) 3 1 (((l.map row).take a ++ List.replicate ((l.length + 1) - a) [Value.int .i64 0]).take a ++ ([x].map row).take 1 ++ ((l.map row).take a ++ List.replicate ((l.length + 1) - a) [Value.int .i64 0]).drop (a + 1)), .sl (rv g l.length cap) 3 1 (l.map row)]] (Cls w [g] [.sl (rv g l.length cap) 3 1 (l.map row)])) rfl mixed (fun _ hw => hw.drew) (Sc.now (by kernel_rfl) (fun _ hw => hw)) ?_)))
  refine V2.y (i := 0) (Nx2.of (Z := Cls w [g] [.sl (rv g l.length cap) 3 1 (l.map row)]) [] (by kernel_rfl) rfl (Zc.on (fun _ hw => hw.sel [1] (by decide) rfl) (Zc.fin (fun _ hw => hw)))) rfl rfl rfl (Y.move rfl) ?_
  refine V2.y (i := 1) (Nx2.of (Z := Cls w [g] [.sl (rv g l.length cap) 3 1 (l.map row)]) [] (by kernel_rfl) rfl (Zc.on (fun _ hw => hw.sel [1] (by decide) rfl) (Zc.fin (fun _ hw => hw)))) rfl rfl rfl (Y.move rfl) ?_
  refine V2.y (i := 2) (Nx2.of (Z := Cls w [g] [.sl (rv g l.length cap) 3 1 (l.map row)]) [] (by kernel_rfl) rfl (Zc.on (fun _ hw => hw.sel [1] (by decide) rfl) (Zc.fin (fun _ hw => hw)))) rfl rfl rfl (Y.move rfl) ?_
  refine V2.y (i := 3) (Nx2.of (Z := Cls w [g] [.sl (rv g l.length cap) 3 1 (l.map row)]) [] (by kernel_rfl) rfl (Zc.on (fun _ hw => hw.sel [1] (by decide) rfl) (Zc.fin (fun _ hw => hw)))) rfl rfl rfl (Y.addN (p := a) (r := 1) rfl rfl (by omega)) ?_
  refine V2.y (i := 4) (Nx2.of (Z := Cls w [g] [.sl (rv g2 (a + ((l.length + 1) - a)) cap2) 3 1 (((l.map row).take a ++ List.replicate ((l.length + 1) - a) [Value.int .i64 0]).take a ++ ([x].map row).take 1 ++ ((l.map row).take a ++ List.replicate ((l.length + 1) - a) [Value.int .i64 0]).drop (a + 1)), .sl (rv g l.length cap) 3 1 (l.map row)]) [8] (by kernel_rfl) rfl (Zc.at1 (fun _ hw => hw))) rfl rfl rfl (Y.sliceLC (lo := a + 1) Try.underlying25 sz3 rfl rfl (by first | omega | (simp only [List.length_drop, List.length_take, List.length_append, List.length_map, List.length_replicate, List.length_singleton, *] <;> omega))) ?_
  refine V2.y (i := 5) (Nx2.of (Z := Cls w [g] [.sl (rv g l.length cap) 3 1 (l.map row)]) [] (by kernel_rfl) rfl (Zc.on (fun _ hw => hw.sel [1] (by decide) rfl) (Zc.fin (fun _ hw => hw)))) rfl rfl rfl (Y.move rfl) ?_
  refine V2.y (i := 6) (Nx2.of (Z := Cls w [g] [.sl (rv g l.length cap) 3 1 (l.map row)]) [] (by kernel_rfl) rfl (Zc.on (fun _ hw => hw.sel [1] (by decide) rfl) (Zc.fin (fun _ hw => hw)))) rfl rfl rfl (Y.move rfl) ?_
  refine V2.y (i := 7) (Nx2.of (Z := Cls w [g] [.sl (rv g l.length cap) 3 1 (l.map row)]) [] (by kernel_rfl) rfl (Zc.on (fun _ hw => hw.sel [1] (by decide) rfl) (Zc.fin (fun _ hw => hw)))) rfl rfl rfl (Y.sliceLC (lo := a) Try.underlying25 sz3 rfl rfl (by first | omega | (simp only [List.length_drop, List.length_take, List.length_append, List.length_map, List.length_replicate, List.length_singleton, *] <;> omega))) ?_
  refine V2.eff (i := 8) (by kernel_rfl) rfl ?_
  refine L.copyAt (i := 0) (a := a + 1) (N := a + ((l.length + 1) - a)) (cap := cap2) (more := ((l.map row).drop a)) (q := (l.length - a)) rfl Try.underlying25 eL3 rfl rfl rfl (fun w hw => At.sliced (N := l.length) (As.at_ (hw.get (i := 1) rfl)) (by first | omega | (simp only [List.length_drop, List.length_take, List.length_append, List.length_map, List.length_replicate, List.length_singleton, *] <;> omega))) (by first | omega | (simp only [List.length_drop, List.length_take, List.length_append, List.length_map, List.length_replicate, List.length_singleton, *] <;> omega)) (by first | omega | (simp only [List.length_drop, List.length_take, List.length_append, List.length_map, List.length_replicate, List.length_singleton, *] <;> omega)) (by first | omega | (simp only [List.length_drop, List.length_take, List.length_append, List.length_map, List.length_replicate, List.length_singleton, *] <;> omega)) (by intro r hr; exact plainL r (List.mem_of_mem_drop (List.mem_of_mem_take hr))) (fun v3 => ?_)
  refine L.nil (E.toV2 (stC [] [] (Cls w [g] [.sl (rv g l.length cap) 3 1 (l.map row)])) 8 (by kernel_rfl) (Sc.past rfl (Sc.stayD (fun _ hw => hw))) (Sc.atD (fun _ hw => hw.sel [1] (by decide) rfl)) ?_)
  refine V2.done (by kernel_rfl) ?_
  refine E.thenN (W.seq (W.region (L.y rfl (Y.move rfl) ?_)))
  refine L.y rfl (Y.assign rfl) ?_
  refine L.nil (E.thenN (W.ret (E.thenR (E.ret1 rfl rfl (fun w1 hw => ?_)))))
  exact ⟨_, rfl, by have h8 := hw; simp only [List.set_cons_zero] at h8; have h9 := h8.sublist (List.Sublist.cons_cons _ (List.nil_sublist _)); have hlm : (l.map row).length = l.length := List.length_map ..; rw [← hlm, ins_rows1 (by rw [List.length_map]; omega) (by simp)] at h9; simpa using h9⟩
set_option maxRecDepth 100000 in
set_option maxHeartbeats 8000000 in
theorem insRoom {α : Type} {row : α → List Value} (hrow : ∀ x : α, (row x).length = 1) (hpl : ∀ x : α, ∀ u ∈ row x, u.oneCell' = true) (l : List α) (x : α) (g cap a : Nat) (v : Value) (w : World) (b : Nat) (hlit : w.heap[b]? = some (.cells (row x).toArray 3 (0, 0))) (hbg : b ≠ g) (ha : a < l.length) (hg : l.length + 1 ≤ cap) (hl : l.length ≤ 1000000000) (hw : Cls w [g] [.sl (rv g l.length cap) 3 1 (l.map row)] w) :
    Calls Try.prog 10 [rv g l.length cap, .int .i64 (a : Nat), sv b 1].toArray w fun en w' => ∃ v', en = .returned v' ∧ Cls w [g] [.sl v' 3 1 ((l.take a ++ [x] ++ l.drop a).map row)] w' := by
  have litAt : At w (sv b 1) 1 ([x].map row) := lit_at (e := 3) hrow hlit
  have hub : (adr (sv b 1)).block ∉ [g] := by simpa [adr, sv] using hbg
  have litPlain : Plain ([x].map row) := plain_map hpl [x]
  have litPlainT : Plain (([x].map row).take 1) := litPlain
  have plainL : Plain (l.map row) := plain_map hpl l
  have ovl : ∀ {N2 lo N : Nat} {rows : List (List Value)} (w' : World), Cls w [g] [.sl (rv g N2 cap) 3 1 rows] w' → 0 < N2 → (callFunc 19 #[sv b 1, sliced (some ⟨g, 0, none⟩) lo N cap 1]).run Try.prog w' = .ok (.value (.bool false)) w' := by
    intro N2 lo N rows w' hc hn
    have hbl : b < w.heap.size := (Array.getElem?_eq_some_iff.1 hlit).1
    have hb' : w'.heap[b]? = some (.cells (row x).toArray 3 (0, 0)) := by rw [hc.old b hbl (by simpa using hbg)]; exact hlit
    obtain ⟨_, _, hown⟩ := hc.get (i := 0) rfl
    rcases hown with ⟨h0, _⟩ | ⟨g', cap', cur, hv, _, hh, hnc, _, hcs, _⟩
    · cases h0
    · have hN2 : N2 = rows.length := by simp only [Value.slice.injEq] at hv; exact hv.2.1
      cases hv
      have hk0 : cur.size ≠ 0 := by
        rw [hcs]
        have : rows.length * 1 ≤ cap * 1 := Nat.mul_le_mul_right _ hnc
        omega
      have key : ∀ ad : Addr, ad.block = g → (callFunc 19 #[sv b 1, .slice (some ad) (N - lo) (cap - lo)]).run Try.prog w' = .ok (.value (.bool false)) w' := by
        intro ad had
        rw [run_callFunc_extern Try.func19 (by kernel_rfl) (by kernel_rfl) (by kernel_rfl) (e := Extern.SlicesOverlaps.overlaps #[25, 25] #[4]) (by kernel_rfl)]
        have := Lib.run_overlaps_apart (P := Try.prog) w' 25 4 3 Try.underlying25 1 (fun w => Go.S.run_sizeOf sz3 w) ⟨b, 0, none⟩ ad 1 1 (N - lo) (cap - lo) (by rw [had]; exact hbg) 3 3 (row x).length cur.size
          (by simp [World.shape?, hb']) (by rw [had]; simp [World.shape?, hh]) hk0 (by simp [World.frozen?, hb']) (by simp [World.frozen?, hb'])
        unfold sv
        rw [this]
        rfl
      unfold sliced
      by_cases c : cap = lo
      · rw [if_pos c]; exact key _ rfl
      · rw [if_neg c]; exact key _ (by simp [Addr.add_lit])
  refine body (n := 95) Try.func10 rfl rfl rfl hw ?_
  refine W.seq (W.region (L.y rfl (Y.assign rfl) ?_))
  refine L.nil (E.thenN (W.seq (W.region (L.y rfl (Y.move rfl) ?_))))
  refine L.y rfl (Y.move rfl) ?_
  refine L.y rfl (Y.sliceLC (lo := a) Try.underlying25 sz3 rfl rfl (by first | omega | (simp only [List.length_drop, List.length_take, List.length_append, List.length_map, List.length_replicate, List.length_singleton, *] <;> omega))) ?_
  refine L.nil (E.thenN (W.seq (W.region (L.y rfl (Y.move rfl) ?_))))
  refine L.y rfl (Y.lenC Try.underlying25 rfl) ?_
  refine L.y rfl (Y.assign rfl) ?_
  refine L.nil (E.thenN (W.seq (W.seq (W.region (L.y rfl (Y.move rfl) ?_)))))
  refine L.y rfl (Y.as (congrArg Value.bool (decide_eq_false (by omega))) (Y.eql rfl rfl)) ?_
  refine L.nil (E.thenN (W.condF rfl ?_))
  refine W.skip (E.thenN (W.seq (W.region (L.y rfl (Y.move rfl) ?_))))
  refine L.y rfl (Y.lenC Try.underlying25 rfl) ?_
  refine L.y rfl (Y.assign rfl) ?_
  refine L.nil (E.thenN (W.seq (W.seq (W.region (L.y rfl (Y.move rfl) ?_)))))
  refine L.y rfl (Y.move rfl) ?_
  refine L.y rfl (Y.as (congrArg Value.bool (decide_eq_false (by omega))) (Y.eql rfl rfl)) ?_
  refine L.nil (E.thenN (W.condF rfl ?_))
  refine W.skip (E.thenN (W.seq (W.seq (W.region (L.y rfl (Y.move rfl) ?_)))))
  refine L.y rfl (Y.move rfl) ?_
  refine L.y rfl (Y.addN (p := l.length) (r := 1) rfl rfl (by omega)) ?_
  refine L.y rfl (Y.move rfl) ?_
  refine L.y rfl (Y.capC Try.underlying25 rfl) ?_
  refine L.y rfl (Y.as (congrArg Value.bool (decide_eq_false (by omega))) (Y.gtr rfl rfl)) ?_
  refine L.nil (E.thenN (W.condF rfl ?_))
  refine W.skip (E.thenN (W.seq (W.region (L.y rfl (Y.move rfl) ?_))))
  refine L.y rfl (Y.move rfl) ?_
  refine L.y rfl (Y.move rfl) ?_
  refine L.y rfl (Y.addN (p := l.length) (r := 1) rfl rfl (by omega)) ?_
  refine L.extend (i := 0) (g := g) (N := l.length) (cap := cap) (N' := l.length + 1) rfl (by first | omega | (simp only [List.length_drop, List.length_take, List.length_append, List.length_map, List.length_replicate, List.length_singleton, *] <;> omega)) (by first | omega | (simp only [List.length_drop, List.length_take, List.length_append, List.length_map, List.length_replicate, List.length_singleton, *] <;> omega)) (fun ex hex => ?_)
  refine L.y rfl (Y.sliceHC (hi := l.length + 1) Try.underlying25 sz3 rfl rfl (by first | omega | (simp only [List.length_drop, List.length_take, List.length_append, List.length_map, List.length_replicate, List.length_singleton, *] <;> omega))) ?_
  refine L.y rfl (Y.assign rfl) ?_
  refine L.nil (E.thenN (W.seq (W.seq (W.region (L.y rfl (Y.move rfl) ?_)))))
  refine L.y rfl (Y.move rfl) ?_
  refine L.y rfl (Y.move rfl) ?_
  refine L.y rfl (Y.move rfl) ?_
  refine L.y rfl (Y.addN (p := a) (r := 1) rfl rfl (by omega)) ?_
  refine L.y rfl (Y.sliceLC (lo := a + 1) Try.underlying25 sz3 rfl rfl (by first | omega | (simp only [List.length_drop, List.length_take, List.length_append, List.length_map, List.length_replicate, List.length_singleton, *] <;> omega))) ?_
  refine L.y rfl (Y.callVal (vs := [sv b 1, sliced (some ⟨g, 0, none⟩) (a + 1) (l.length + 1) cap 1]) rfl (fun w hw => ovl w hw (by omega))) ?_
  refine L.y rfl (Y.not rfl) ?_
  refine L.nil (E.thenN (W.condT rfl ?_))
  refine W.seq (W.drawn2 (k := 9) (stC [[8]] [Cls w [g] [.sl (rv g (l.length + 1) cap) 3 1 ((l.map row) ++ ex)]] (Cls w [g] [])) rfl mixed (fun _ hw => hw.drew) (Sc.now (by kernel_rfl) (fun _ hw => hw)) ?_)
  refine V2.y (i := 0) (Nx2.of (Z := Cls w [g] []) [] (by kernel_rfl) rfl (Zc.on (fun _ hw => hw.sel [] (by decide) rfl) (Zc.fin (fun _ hw => hw)))) rfl rfl rfl (Y.move rfl) ?_
  refine V2.y (i := 1) (Nx2.of (Z := Cls w [g] []) [] (by kernel_rfl) rfl (Zc.on (fun _ hw => hw.sel [] (by decide) rfl) (Zc.fin (fun _ hw => hw)))) rfl rfl rfl (Y.move rfl) ?_
  refine V2.y (i := 2) (Nx2.of (Z := Cls w [g] []) [] (by kernel_rfl) rfl (Zc.on (fun _ hw => hw.sel [] (by decide) rfl) (Zc.fin (fun _ hw => hw)))) rfl rfl rfl (Y.move rfl) ?_
  refine V2.y (i := 3) (Nx2.of (Z := Cls w [g] []) [] (by kernel_rfl) rfl (Zc.on (fun _ hw => hw.sel [] (by decide) rfl) (Zc.fin (fun _ hw => hw)))) rfl rfl rfl (Y.addN (p := a) (r := 1) rfl rfl (by omega)) ?_
  refine V2.y (i := 4) (Nx2.of (Z := Cls w [g] [.sl (rv g (l.length + 1) cap) 3 1 ((l.map row) ++ ex)]) [8] (by kernel_rfl) rfl (Zc.at1 (fun _ hw => hw))) rfl rfl rfl (Y.sliceLC (lo := a + 1) Try.underlying25 sz3 rfl rfl (by first | omega | (simp only [List.length_drop, List.length_take, List.length_append, List.length_map, List.length_replicate, List.length_singleton, *] <;> omega))) ?_
  refine V2.y (i := 5) (Nx2.of (Z := Cls w [g] []) [] (by kernel_rfl) rfl (Zc.on (fun _ hw => hw.sel [] (by decide) rfl) (Zc.fin (fun _ hw => hw)))) rfl rfl rfl (Y.move rfl) ?_
  refine V2.y (i := 6) (Nx2.of (Z := Cls w [g] []) [] (by kernel_rfl) rfl (Zc.on (fun _ hw => hw.sel [] (by decide) rfl) (Zc.fin (fun _ hw => hw)))) rfl rfl rfl (Y.move rfl) ?_
  refine V2.y (i := 7) (Nx2.of (Z := Cls w [g] [.sl (rv g (l.length + 1) cap) 3 1 ((l.map row) ++ ex)]) [8] (by kernel_rfl) rfl (Zc.at1 (fun _ hw => hw))) rfl rfl rfl (Y.sliceLC (lo := a) Try.underlying25 sz3 rfl rfl (by first | omega | (simp only [List.length_drop, List.length_take, List.length_append, List.length_map, List.length_replicate, List.length_singleton, *] <;> omega))) ?_
  refine V2.eff (i := 8) (by kernel_rfl) rfl ?_
  refine L.copyAt (i := 0) (a := a + 1) (N := l.length + 1) (cap := cap) (more := (((l.map row) ++ ex).drop a)) (q := (l.length - a)) rfl Try.underlying25 eL3 rfl rfl rfl (fun w hw => At.sliced (N := (l.length + 1)) (As.at_ (hw.get (i := 0) rfl)) (by first | omega | (simp only [List.length_drop, List.length_take, List.length_append, List.length_map, List.length_replicate, List.length_singleton, *] <;> omega))) (by first | omega | (simp only [List.length_drop, List.length_take, List.length_append, List.length_map, List.length_replicate, List.length_singleton, *] <;> omega)) (by first | omega | (simp only [List.length_drop, List.length_take, List.length_append, List.length_map, List.length_replicate, List.length_singleton, *] <;> omega)) (by first | omega | (simp only [List.length_drop, List.length_take, List.length_append, List.length_map, List.length_replicate, List.length_singleton, *] <;> omega)) (by intro r hr; exact plainL r (copied (by rw [List.length_map]; omega) (by rw [List.length_map]) hr)) (fun v3 => ?_)
  refine L.nil (E.toV2 (stC [] [] (Cls w [g] [])) 8 (by kernel_rfl) (Sc.past rfl (Sc.stayD (fun _ hw => hw))) (Sc.atD (fun _ hw => hw.sel [] (by decide) rfl)) ?_)
  refine V2.done (by kernel_rfl) ?_
  refine E.thenN (W.seq (W.region (L.y rfl (Y.move rfl) ?_)))
  refine L.y rfl (Y.move rfl) ?_
  refine L.y rfl (Y.sliceLC (lo := a) Try.underlying25 sz3 rfl rfl (by first | omega | (simp only [List.length_drop, List.length_take, List.length_append, List.length_map, List.length_replicate, List.length_singleton, *] <;> omega))) ?_
  refine L.y rfl (Y.move rfl) ?_
  refine L.copyAt (i := 0) (a := a) (N := l.length + 1) (cap := cap) (more := ([x].map row)) (q := 1) rfl Try.underlying25 eL3 rfl rfl rfl (fun w hw => litAt.cls hw hub) (by first | omega | (simp only [List.length_drop, List.length_take, List.length_append, List.length_map, List.length_replicate, List.length_singleton, *] <;> omega)) (by first | omega | (simp only [List.length_drop, List.length_take, List.length_append, List.length_map, List.length_replicate, List.length_singleton, *] <;> omega)) (by first | omega | (simp only [List.length_drop, List.length_take, List.length_append, List.length_map, List.length_replicate, List.length_singleton, *] <;> omega)) (litPlainT) (fun v3 => ?_)
  refine L.nil (E.thenN (W.seq (W.region (L.y rfl (Y.move rfl) ?_))))
  refine L.y rfl (Y.assign rfl) ?_
  refine L.nil (E.thenN (W.ret (E.thenR (E.ret1 rfl rfl (fun w1 hw => ?_)))))
  exact ⟨_, rfl, by have hlm : (l.map row).length = l.length := List.length_map ..; rw [← hlm] at hw hex; rw [ins_rows2 (by rw [hlm]; omega) (by simp) hex] at hw; simpa using hw⟩
end Go.Proofs.Ytdebhhjbgbkbjaa.rows10
namespace Go.Proofs.Ytdebhhjbgbkbjaa.rows28
open Go.S
set_option linter.unusedVariables false
set_option linter.unusedSimpArgs false
theorem mixed : Try.prog.follows .mixedOrders = true := by kernel_rfl
theorem eL9 : elemB Try.prog 9 1 16 = true := by kernel_rfl
theorem sz9 : szB Try.prog 9 1 = true := by kernel_rfl
theorem ze9 : zeroB Try.prog 9 = some [.string ⟨#[]⟩] := by kernel_rfl
theorem plain_map {α : Type} {row : α → List Value} (hpl : ∀ x : α, ∀ u ∈ row x, u.oneCell' = true) (l : List α) : Plain (l.map row) := by
  intro r hr u hu
  obtain ⟨x, _, rfl⟩ := List.mem_map.1 hr
  exact hpl x u hu
theorem zcOne : ∀ u ∈ ([Value.string ⟨#[]⟩] : List Value), u.oneCell' = true := by intro u hu; simp only [List.mem_cons, List.not_mem_nil, or_false] at hu; rcases hu with rfl <;> rfl
theorem del_rows {β : Type} {R : List β} {a b : Nat} {z : β} {q : Nat} (ha : a ≤ R.length) : (((R.take a ++ R.drop b ++ R.drop (a + (R.drop b).length)).take (a + (R.drop b).length)) ++ List.replicate q z).take (a + (R.drop b).length) = R.take a ++ R.drop b := by
  have e : (R.take a ++ R.drop b).length = a + (R.drop b).length := by rw [List.length_append, List.length_take, Nat.min_eq_left ha]
  rw [← e, List.take_left, List.take_left]
theorem ins_rows1 {β : Type} {R Y : List β} {z : β} {a : Nat} (ha : a < R.length) (hy : Y.length = 1) :
    ((R.take a ++ List.replicate (R.length + 1 - a) z).take a ++ Y.take 1 ++ (R.take a ++ List.replicate (R.length + 1 - a) z).drop (a + 1)).take (a + 1) ++ (R.drop a).take (R.length - a) ++ ((R.take a ++ List.replicate (R.length + 1 - a) z).take a ++ Y.take 1 ++ (R.take a ++ List.replicate (R.length + 1 - a) z).drop (a + 1)).drop (a + 1 + (R.length - a)) = R.take a ++ Y ++ R.drop a := by
  have e1 : (R.take a).length = a := by rw [List.length_take]; omega
  have e2 : (R.take a ++ List.replicate (R.length + 1 - a) z).take a = R.take a := List.take_left' e1
  have e3 : Y.take 1 = Y := List.take_of_length_le (by omega)
  have e4 : (R.take a ++ Y).length = a + 1 := by rw [List.length_append, e1, hy]
  have e5 : (R.drop a).take (R.length - a) = R.drop a := List.take_of_length_le (by rw [List.length_drop]; omega)
  have e6 : (R.take a ++ Y ++ (R.take a ++ List.replicate (R.length + 1 - a) z).drop (a + 1)).drop (a + 1 + (R.length - a)) = [] := List.drop_eq_nil_of_le (by simp only [List.length_append, List.length_drop, List.length_replicate, e1, hy]; omega)
  rw [e2, e3, e5, List.take_left' e4, e6, List.append_nil]
theorem ins_rows2 {β : Type} {R X Y : List β} {a : Nat} (ha : a < R.length) (hy : Y.length = 1) (hx : X.length = R.length + 1 - R.length) :
    ((R ++ X).take (a + 1) ++ ((R ++ X).drop a).take (R.length - a) ++ (R ++ X).drop (a + 1 + (R.length - a))).take a ++ Y.take 1 ++ ((R ++ X).take (a + 1) ++ ((R ++ X).drop a).take (R.length - a) ++ (R ++ X).drop (a + 1 + (R.length - a))).drop (a + 1) = R.take a ++ Y ++ R.drop a := by
  have e3 : Y.take 1 = Y := List.take_of_length_le (by omega)
  have e6 : ((R ++ X).drop a).take (R.length - a) = R.drop a := by
    rw [List.drop_append_of_le_length (by omega), List.take_left' (by rw [List.length_drop])]
  have e7 : (R ++ X).drop (a + 1 + (R.length - a)) = [] := List.drop_eq_nil_of_le (by rw [List.length_append]; omega)
  have e8 : ((R ++ X).take (a + 1)).length = a + 1 := by rw [List.length_take, List.length_append]; omega
  have e9 : ((R ++ X).take (a + 1) ++ R.drop a).take a = R.take a := by
    rw [List.take_append_of_le_length (by rw [e8]; omega), List.take_take, Nat.min_eq_left (by omega), List.take_append_of_le_length (by omega)]
  rw [e6, e7, List.append_nil, e3, e9, List.drop_left' e8]
theorem copied {β : Type} {R X : List β} {a q : Nat} {r : β} (ha : a ≤ R.length) (hq : q = R.length - a) (hr : r ∈ ((R ++ X).drop a).take q) : r ∈ R := by
  rw [List.drop_append_of_le_length ha, List.take_left' (by rw [List.length_drop, hq])] at hr
  exact List.mem_of_mem_drop hr
theorem lit_at {α : Type} {row : α → List Value} {x : α} {b : Nat} {e : TypeId} {w : World} (hrow : ∀ x : α, (row x).length = 1) (h : w.heap[b]? = some (.cells (row x).toArray e (0, 0))) : At w (sv b 1) 1 ([x].map row) := by
  refine ⟨.inr ⟨⟨b, 0, none⟩, 1, rfl, by simp, by simp [maxLen]⟩, ?_, ?_⟩
  · intro r hr
    simp only [List.map_cons, List.map_nil, List.mem_singleton] at hr
    rw [hr, hrow]
  · intro i r j y h1 h2
    cases i with
    | zero =>
      simp only [List.map_cons, List.map_nil, List.getElem?_cons_zero, Option.some.injEq] at h1
      subst h1
      simp [adr, sv, World.cell?, h, Addr.add_lit, h2]
    | succ i => simp at h1
set_option maxRecDepth 100000 in
set_option maxHeartbeats 8000000 in
theorem delWalk {α : Type} {row : α → List Value} (hrow : ∀ x : α, (row x).length = 1) (hpl : ∀ x : α, ∀ u ∈ row x, u.oneCell' = true) (l : List α) (g cap a b : Nat) (w : World) (hab : a < b) (hb : b ≤ l.length) (hc : l.length ≤ cap) (hl : l.length ≤ 1000000000) (hw : Cls w [g] [.sl (rv g l.length cap) 9 1 (l.map row)] w) :
    Calls Try.prog 25 [rv g l.length cap, .int .i64 (a : Nat), .int .i64 (b : Nat)].toArray w fun en w' => ∃ v', en = .returned v' ∧ Cls w [g] [.sl v' 9 1 ((l.take a ++ l.drop b).map row)] w' := by
  have plainL : Plain (l.map row) := plain_map hpl l
  refine body (n := 33) Try.func25 rfl rfl rfl hw ?_
  refine W.seq (W.region (L.y rfl (Y.assign rfl) ?_))
  refine L.nil (E.thenN (W.seq (W.region (L.y rfl (Y.move rfl) ?_))))
  refine L.y rfl (Y.move rfl) ?_
  refine L.y rfl (Y.move rfl) ?_
  refine L.y rfl (Y.move rfl) ?_
  refine L.y rfl (Y.lenC Try.underlying43 rfl) ?_
  refine L.y rfl (Y.slice3C (lo := a) (hi := b) (mx := l.length) Try.underlying43 sz9 rfl rfl rfl rfl (by first | omega | (simp only [List.length_drop, List.length_take, List.length_append, List.length_map, List.length_replicate, List.length_singleton, *] <;> omega)) (by first | omega | (simp only [List.length_drop, List.length_take, List.length_append, List.length_map, List.length_replicate, List.length_singleton, *] <;> omega)) (by first | omega | (simp only [List.length_drop, List.length_take, List.length_append, List.length_map, List.length_replicate, List.length_singleton, *] <;> omega))) ?_
  refine L.nil (E.thenN (W.seq (W.seq (W.region (L.y rfl (Y.move rfl) ?_)))))
  refine L.y rfl (Y.move rfl) ?_
  refine L.y rfl (Y.as (congrArg Value.bool (decide_eq_false (by omega))) (Y.eql rfl rfl)) ?_
  refine L.nil (E.thenN (W.condF rfl ?_))
  refine W.skip (E.thenN (W.seq (W.region (L.y rfl (Y.move rfl) ?_))))
  refine L.y rfl (Y.lenC Try.underlying43 rfl) ?_
  refine L.y rfl (Y.assign rfl) ?_
  refine L.nil (E.thenN (W.seq (W.drawn2 (k := 8) (stC [[6]] [Cls w [g] [.sl (rv g l.length cap) 9 1 (l.map row)]] (Cls w [g] [])) rfl mixed (fun _ hw => hw.drew) (Sc.now (by kernel_rfl) (fun _ hw => hw)) ?_)))
  refine V2.y (i := 0) (Nx2.of (Z := Cls w [g] []) [] (by kernel_rfl) rfl (Zc.on (fun _ hw => hw.sel [] (by decide) rfl) (Zc.fin (fun _ hw => hw)))) rfl rfl rfl (Y.move rfl) ?_
  refine V2.y (i := 1) (Nx2.of (Z := Cls w [g] []) [] (by kernel_rfl) rfl (Zc.on (fun _ hw => hw.sel [] (by decide) rfl) (Zc.fin (fun _ hw => hw)))) rfl rfl rfl (Y.move rfl) ?_
  refine V2.y (i := 2) (Nx2.of (Z := Cls w [g] [.sl (rv g l.length cap) 9 1 (l.map row)]) [6] (by kernel_rfl) rfl (Zc.at1 (fun _ hw => hw))) rfl rfl rfl (Y.sliceHC (hi := a) Try.underlying43 sz9 rfl rfl (by first | omega | (simp only [List.length_drop, List.length_take, List.length_append, List.length_map, List.length_replicate, List.length_singleton, *] <;> omega))) ?_
  refine V2.y (i := 3) (Nx2.of (Z := Cls w [g] []) [] (by kernel_rfl) rfl (Zc.on (fun _ hw => hw.sel [] (by decide) rfl) (Zc.fin (fun _ hw => hw)))) rfl rfl rfl (Y.move rfl) ?_
  refine V2.y (i := 4) (Nx2.of (Z := Cls w [g] []) [] (by kernel_rfl) rfl (Zc.on (fun _ hw => hw.sel [] (by decide) rfl) (Zc.fin (fun _ hw => hw)))) rfl rfl rfl (Y.move rfl) ?_
  refine V2.y (i := 5) (Nx2.of (Z := Cls w [g] [.sl (rv g l.length cap) 9 1 (l.map row)]) [6] (by kernel_rfl) rfl (Zc.at1 (fun _ hw => hw))) rfl rfl rfl (Y.sliceLC (lo := b) Try.underlying43 sz9 rfl rfl (by first | omega | (simp only [List.length_drop, List.length_take, List.length_append, List.length_map, List.length_replicate, List.length_singleton, *] <;> omega))) ?_
  refine V2.eff (i := 6) (by kernel_rfl) rfl ?_
  refine L.appOver (i := 0) (a := a) (news := (l.map row).drop b) rfl Try.underlying43 eL9 rfl rfl rfl (fun w hw => At.sliced (As.at_ (hw.get (i := 0) rfl)) (by first | omega | (simp only [List.length_drop, List.length_take, List.length_append, List.length_map, List.length_replicate, List.length_singleton, *] <;> omega))) (by first | omega | (simp only [List.length_drop, List.length_take, List.length_append, List.length_map, List.length_replicate, List.length_singleton, *] <;> omega)) (by first | omega | (simp only [List.length_drop, List.length_take, List.length_append, List.length_map, List.length_replicate, List.length_singleton, *] <;> omega)) (fun r hr => plainL r (List.mem_of_mem_drop hr)) ?_
  refine L.nil (E.toV2 (stC [] [] (Cls w [g] [])) 6 (by kernel_rfl) (Sc.past rfl (Sc.stayD (fun _ hw => hw))) (Sc.atD (fun _ hw => hw.sel [] (by decide) rfl)) ?_)
  refine V2.y (i := 7) (Nx2.of (Z := Cls w [g] []) [] (by kernel_rfl) rfl (Zc.fin (fun _ hw => hw))) rfl rfl rfl (Y.assign rfl) ?_
  refine V2.done (by kernel_rfl) ?_
  refine E.thenN (W.seq (W.region (L.y rfl (Y.move rfl) ?_)))
  refine L.y rfl (Y.move rfl) ?_
  refine L.y rfl (Y.lenC Try.underlying43 rfl) ?_
  refine L.y rfl (Y.move rfl) ?_
  refine L.y rfl (Y.sliceLHC (lo := a + ((l.map row).drop b).length) (hi := l.length) Try.underlying43 sz9 rfl rfl rfl (by first | omega | (simp only [List.length_drop, List.length_take, List.length_append, List.length_map, List.length_replicate, List.length_singleton, *] <;> omega)) (by first | omega | (simp only [List.length_drop, List.length_take, List.length_append, List.length_map, List.length_replicate, List.length_singleton, *] <;> omega))) ?_
  refine L.clear (i := 0) (v := rv g l.length cap) (rows := ((l.map row).take a ++ (l.map row).drop b ++ (l.map row).drop (a + ((l.map row).drop b).length))) (a := a + ((l.map row).drop b).length) Try.underlying43 eL9 ze9 (fun u hu => zcOne u hu) (congrArg some (sliced_drop (by first | omega | (simp only [List.length_drop, List.length_take, List.length_append, List.length_map, List.length_replicate, List.length_singleton, *] <;> omega)) (by first | omega | (simp only [List.length_drop, List.length_take, List.length_append, List.length_map, List.length_replicate, List.length_singleton, *] <;> omega)))) rfl (by first | omega | (simp only [List.length_drop, List.length_take, List.length_append, List.length_map, List.length_replicate, List.length_singleton, *] <;> omega)) ?_
  refine L.nil (E.thenN (W.seq (W.region (L.y rfl (Y.move rfl) ?_))))
  refine L.y rfl (Y.assign rfl) ?_
  refine L.nil (E.thenN (W.ret (E.ret1 rfl rfl (fun w1 hw => ?_))))
  exact ⟨_, rfl, by have h9 := hw.shrink (i := 0) (N' := a + (List.drop b (l.map row)).length) rfl (by simp only [List.length_append, List.length_take, List.length_drop, List.length_map, List.length_replicate]; omega); rw [del_rows (by rw [List.length_map]; omega)] at h9; simpa using h9⟩
set_option maxRecDepth 100000 in
set_option maxHeartbeats 8000000 in
theorem insEnd {α : Type} {row : α → List Value} (hrow : ∀ x : α, (row x).length = 1) (hpl : ∀ x : α, ∀ u ∈ row x, u.oneCell' = true) (l : List α) (x : α) (g cap a : Nat) (v : Value) (w : World) (b : Nat) (hlit : w.heap[b]? = some (.cells (row x).toArray 9 (0, 0))) (hbg : b ≠ g) (ha : a = l.length) (hl : l.length ≤ 1000000000) (hw : Cls w [g] [.sl v 9 1 (l.map row)] w) :
    Calls Try.prog 28 [v, .int .i64 (a : Nat), sv b 1].toArray w fun en w' => ∃ v', en = .returned v' ∧ Cls w [g] [.sl v' 9 1 ((l.take a ++ [x] ++ l.drop a).map row)] w' := by
  have litAt : At w (sv b 1) 1 ([x].map row) := lit_at (e := 9) hrow hlit
  have hub : (adr (sv b 1)).block ∉ [g] := by simpa [adr, sv] using hbg
  have litPlain : Plain ([x].map row) := plain_map hpl [x]
  have litPlainT : Plain (([x].map row).take 1) := litPlain
  have plainL : Plain (l.map row) := plain_map hpl l
  refine body (n := 95) Try.func28 rfl rfl rfl hw ?_
  refine W.seq (W.region (L.y rfl (Y.assign rfl) ?_))
  refine L.nil (E.thenN (W.seq (W.region (L.y rfl (Y.move rfl) ?_))))
  refine L.y rfl (Y.move rfl) ?_
  refine L.y rfl (Y.dropA Try.underlying43 sz9 rfl rfl (fun w hw => As.at_ (hw.get (i := 0) rfl)) (by first | omega | (simp only [List.length_drop, List.length_take, List.length_append, List.length_map, List.length_replicate, List.length_singleton, *] <;> omega)) (by simp; omega)) ?_
  refine L.nil (E.thenN (W.seq (W.region (L.y rfl (Y.move rfl) ?_))))
  refine L.y rfl (Y.lenC Try.underlying43 rfl) ?_
  refine L.y rfl (Y.assign rfl) ?_
  refine L.nil (E.thenN (W.seq (W.seq (W.region (L.y rfl (Y.move rfl) ?_)))))
  refine L.y rfl (Y.as (congrArg Value.bool (decide_eq_false (by omega))) (Y.eql rfl rfl)) ?_
  refine L.nil (E.thenN (W.condF rfl ?_))
  refine W.skip (E.thenN (W.seq (W.region (L.y rfl (Y.move rfl) ?_))))
  refine L.y rfl (Y.lenM (g := row) (l := l) Try.underlying43 rfl (fun w hw => As.at_ (hw.get (i := 0) rfl))) ?_
  refine L.y rfl (Y.assign rfl) ?_
  refine L.nil (E.thenN (W.seq (W.seq (W.region (L.y rfl (Y.move rfl) ?_)))))
  refine L.y rfl (Y.move rfl) ?_
  refine L.y rfl (Y.as (congrArg Value.bool (decide_eq_true (by omega))) (Y.eql rfl rfl)) ?_
  refine L.nil (E.thenN (W.condT rfl ?_))
  refine W.seq (W.region (L.y rfl (Y.move rfl) ?_))
  refine L.y rfl (Y.move rfl) ?_
  refine L.append (i := 0) rfl Try.underlying43 eL9 rfl rfl rfl (fun w hw => litAt.cls hw hub) litPlain (by simp only [maxLen, List.length_map, List.length_singleton]; omega) (by simp only [List.length_map, List.length_singleton]; omega) (fun v2 => ?_)
  refine L.y rfl (Y.assign rfl) ?_
  refine L.nil (E.thenN (W.ret (E.thenR (E.ret1 rfl rfl (fun w1 hw => ?_)))))
  exact ⟨_, rfl, by subst ha; simpa using hw⟩
set_option maxRecDepth 100000 in
set_option maxHeartbeats 8000000 in
theorem insGrow {α : Type} {row : α → List Value} (hrow : ∀ x : α, (row x).length = 1) (hpl : ∀ x : α, ∀ u ∈ row x, u.oneCell' = true) (l : List α) (x : α) (g cap a : Nat) (v : Value) (w : World) (b : Nat) (hlit : w.heap[b]? = some (.cells (row x).toArray 9 (0, 0))) (hbg : b ≠ g) (ha : a < l.length) (hc : l.length ≤ cap) (hg : cap < l.length + 1) (hl : l.length ≤ 1000000000) (hw : Cls w [g] [.sl (rv g l.length cap) 9 1 (l.map row)] w) :
    Calls Try.prog 28 [rv g l.length cap, .int .i64 (a : Nat), sv b 1].toArray w fun en w' => ∃ v', en = .returned v' ∧ Cls w [g] [.sl v' 9 1 ((l.take a ++ [x] ++ l.drop a).map row)] w' := by
  have litAt : At w (sv b 1) 1 ([x].map row) := lit_at (e := 9) hrow hlit
  have hub : (adr (sv b 1)).block ∉ [g] := by simpa [adr, sv] using hbg
  have litPlain : Plain ([x].map row) := plain_map hpl [x]
  have litPlainT : Plain (([x].map row).take 1) := litPlain
  have plainL : Plain (l.map row) := plain_map hpl l
  refine body (n := 95) Try.func28 rfl rfl rfl hw ?_
  refine W.seq (W.region (L.y rfl (Y.assign rfl) ?_))
  refine L.nil (E.thenN (W.seq (W.region (L.y rfl (Y.move rfl) ?_))))
  refine L.y rfl (Y.move rfl) ?_
  refine L.y rfl (Y.sliceLC (lo := a) Try.underlying43 sz9 rfl rfl (by first | omega | (simp only [List.length_drop, List.length_take, List.length_append, List.length_map, List.length_replicate, List.length_singleton, *] <;> omega))) ?_
  refine L.nil (E.thenN (W.seq (W.region (L.y rfl (Y.move rfl) ?_))))
  refine L.y rfl (Y.lenC Try.underlying43 rfl) ?_
  refine L.y rfl (Y.assign rfl) ?_
  refine L.nil (E.thenN (W.seq (W.seq (W.region (L.y rfl (Y.move rfl) ?_)))))
  refine L.y rfl (Y.as (congrArg Value.bool (decide_eq_false (by omega))) (Y.eql rfl rfl)) ?_
  refine L.nil (E.thenN (W.condF rfl ?_))
  refine W.skip (E.thenN (W.seq (W.region (L.y rfl (Y.move rfl) ?_))))
  refine L.y rfl (Y.lenC Try.underlying43 rfl) ?_
  refine L.y rfl (Y.assign rfl) ?_
  refine L.nil (E.thenN (W.seq (W.seq (W.region (L.y rfl (Y.move rfl) ?_)))))
  refine L.y rfl (Y.move rfl) ?_
  refine L.y rfl (Y.as (congrArg Value.bool (decide_eq_false (by omega))) (Y.eql rfl rfl)) ?_
  refine L.nil (E.thenN (W.condF rfl ?_))
  refine W.skip (E.thenN (W.seq (W.seq (W.region (L.y rfl (Y.move rfl) ?_)))))
  refine L.y rfl (Y.move rfl) ?_
  refine L.y rfl (Y.addN (p := l.length) (r := 1) rfl rfl (by omega)) ?_
  refine L.y rfl (Y.move rfl) ?_
  refine L.y rfl (Y.capC Try.underlying43 rfl) ?_
  refine L.y rfl (Y.as (congrArg Value.bool (decide_eq_true (by omega))) (Y.gtr rfl rfl)) ?_
  refine L.nil (E.thenN (W.condT rfl ?_))
  refine W.seq (W.region (L.y rfl (Y.move rfl) ?_))
  refine L.y rfl (Y.move rfl) ?_
  refine L.y rfl (Y.sliceHC (hi := a) Try.underlying43 sz9 rfl rfl (by first | omega | (simp only [List.length_drop, List.length_take, List.length_append, List.length_map, List.length_replicate, List.length_singleton, *] <;> omega))) ?_
  refine L.y rfl (Y.move rfl) ?_
  refine L.y rfl (Y.move rfl) ?_
  refine L.y rfl (Y.addN (p := l.length) (r := 1) rfl rfl (by omega)) ?_
  refine L.y rfl (Y.move rfl) ?_
  refine L.y rfl (Y.subN (p := l.length + 1) (r := a) rfl rfl (by omega) (by omega)) ?_
  refine L.appFreshZ (i := 0) (a := a) (cnt := (l.length + 1) - a) rfl Try.underlying43 Try.underlying3 eL9 ze9 rfl rfl rfl (by first | omega | (simp only [List.length_drop, List.length_take, List.length_append, List.length_map, List.length_replicate, List.length_singleton, *] <;> omega)) (by first | omega | (simp only [List.length_drop, List.length_take, List.length_append, List.length_map, List.length_replicate, List.length_singleton, *] <;> omega)) (by simp only [maxLen]; omega) (by first | omega | (simp only [List.length_drop, List.length_take, List.length_append, List.length_map, List.length_replicate, List.length_singleton, *] <;> omega)) (by first | omega | (simp only [List.length_drop, List.length_take, List.length_append, List.length_map, List.length_replicate, List.length_singleton, *] <;> omega)) (fun g2 cap2 hc2 => ?_)
  refine L.y rfl (Y.assign rfl) ?_
  refine L.nil (E.thenN (W.seq (W.region (L.y rfl (Y.move rfl) ?_))))
  refine L.y rfl (Y.move rfl) ?_
  refine L.y rfl (Y.sliceLC (lo := a) Try.underlying43 sz9 rfl rfl (by first | omega | (simp only [List.length_drop, List.length_take, List.length_append, List.length_map, List.length_replicate, List.length_singleton, *] <;> omega))) ?_
  refine L.y rfl (Y.move rfl) ?_
  refine L.copyAt (i := 0) (a := a) (N := a + ((l.length + 1) - a)) (cap := cap2) (more := ([x].map row)) (q := 1) rfl Try.underlying43 eL9 rfl rfl rfl (fun w hw => litAt.cls hw hub) (by first | omega | (simp only [List.length_drop, List.length_take, List.length_append, List.length_map, List.length_replicate, List.length_singleton, *] <;> omega)) (by first | omega | (simp only [List.length_drop, List.length_take, List.length_append, List.length_map, List.length_replicate, List.length_singleton, *] <;> omega)) (by first | omega | (simp only [List.length_drop, List.length_take, List.length_append, List.length_map, List.length_replicate, List.length_singleton, *] <;> omega)) (litPlainT) (fun v3 => ?_)
  refine L.nil (E.thenN (W.seq (W.drawn2 (k := 9) (stC [[8]] [Cls w [g] [.sl (rv g2 (a + ((l.length + 1) - a)) cap2) 9 1 (((l.map row).take a ++ List.replicate ((l.length + 1) - a) [Value.string ⟨#[]⟩]).take a ++ ([x].map row).take 1 ++ ((l.map row).take a ++ List.replicate ((l.length + 1) - a) [Value.string ⟨#[]⟩]).drop (a + 1)), .sl (rv g l.length cap) 9 1 (l.map row)]] (Cls w [g] [.sl (rv g l.length cap) 9 1 (l.map row)])) rfl mixed (fun _ hw => hw.drew) (Sc.now (by kernel_rfl) (fun _ hw => hw)) ?_)))
  refine V2.y (i := 0) (Nx2.of (Z := Cls w [g] [.sl (rv g l.length cap) 9 1 (l.map row)]) [] (by kernel_rfl) rfl (Zc.on (fun _ hw => hw.sel [1] (by decide) rfl) (Zc.fin (fun _ hw => hw)))) rfl rfl rfl (Y.move rfl) ?_
  refine V2.y (i := 1) (Nx2.of (Z := Cls w [g] [.sl (rv g l.length cap) 9 1 (l.map row)]) [] (by kernel_rfl) rfl (Zc.on (fun _ hw => hw.sel [1] (by decide) rfl) (Zc.fin (fun _ hw => hw)))) rfl rfl rfl (Y.move rfl) ?_
  refine V2.y (i := 2) (Nx2.of (Z := Cls w [g] [.sl (rv g l.length cap) 9 1 (l.map row)]) [] (by kernel_rfl) rfl (Zc.on (fun _ hw => hw.sel [1] (by decide) rfl) (Zc.fin (fun _ hw => hw)))) rfl rfl rfl (Y.move rfl) ?_
  refine V2.y (i := 3) (Nx2.of (Z := Cls w [g] [.sl (rv g l.length cap) 9 1 (l.map row)]) [] (by kernel_rfl) rfl (Zc.on (fun _ hw => hw.sel [1] (by decide) rfl) (Zc.fin (fun _ hw => hw)))) rfl rfl rfl (Y.addN (p := a) (r := 1) rfl rfl (by omega)) ?_
  refine V2.y (i := 4) (Nx2.of (Z := Cls w [g] [.sl (rv g2 (a + ((l.length + 1) - a)) cap2) 9 1 (((l.map row).take a ++ List.replicate ((l.length + 1) - a) [Value.string ⟨#[]⟩]).take a ++ ([x].map row).take 1 ++ ((l.map row).take a ++ List.replicate ((l.length + 1) - a) [Value.string ⟨#[]⟩]).drop (a + 1)), .sl (rv g l.length cap) 9 1 (l.map row)]) [8] (by kernel_rfl) rfl (Zc.at1 (fun _ hw => hw))) rfl rfl rfl (Y.sliceLC (lo := a + 1) Try.underlying43 sz9 rfl rfl (by first | omega | (simp only [List.length_drop, List.length_take, List.length_append, List.length_map, List.length_replicate, List.length_singleton, *] <;> omega))) ?_
  refine V2.y (i := 5) (Nx2.of (Z := Cls w [g] [.sl (rv g l.length cap) 9 1 (l.map row)]) [] (by kernel_rfl) rfl (Zc.on (fun _ hw => hw.sel [1] (by decide) rfl) (Zc.fin (fun _ hw => hw)))) rfl rfl rfl (Y.move rfl) ?_
  refine V2.y (i := 6) (Nx2.of (Z := Cls w [g] [.sl (rv g l.length cap) 9 1 (l.map row)]) [] (by kernel_rfl) rfl (Zc.on (fun _ hw => hw.sel [1] (by decide) rfl) (Zc.fin (fun _ hw => hw)))) rfl rfl rfl (Y.move rfl) ?_
  refine V2.y (i := 7) (Nx2.of (Z := Cls w [g] [.sl (rv g l.length cap) 9 1 (l.map row)]) [] (by kernel_rfl) rfl (Zc.on (fun _ hw => hw.sel [1] (by decide) rfl) (Zc.fin (fun _ hw => hw)))) rfl rfl rfl (Y.sliceLC (lo := a) Try.underlying43 sz9 rfl rfl (by first | omega | (simp only [List.length_drop, List.length_take, List.length_append, List.length_map, List.length_replicate, List.length_singleton, *] <;> omega))) ?_
  refine V2.eff (i := 8) (by kernel_rfl) rfl ?_
  refine L.copyAt (i := 0) (a := a + 1) (N := a + ((l.length + 1) - a)) (cap := cap2) (more := ((l.map row).drop a)) (q := (l.length - a)) rfl Try.underlying43 eL9 rfl rfl rfl (fun w hw => At.sliced (N := l.length) (As.at_ (hw.get (i := 1) rfl)) (by first | omega | (simp only [List.length_drop, List.length_take, List.length_append, List.length_map, List.length_replicate, List.length_singleton, *] <;> omega))) (by first | omega | (simp only [List.length_drop, List.length_take, List.length_append, List.length_map, List.length_replicate, List.length_singleton, *] <;> omega)) (by first | omega | (simp only [List.length_drop, List.length_take, List.length_append, List.length_map, List.length_replicate, List.length_singleton, *] <;> omega)) (by first | omega | (simp only [List.length_drop, List.length_take, List.length_append, List.length_map, List.length_replicate, List.length_singleton, *] <;> omega)) (by intro r hr; exact plainL r (List.mem_of_mem_drop (List.mem_of_mem_take hr))) (fun v3 => ?_)
  refine L.nil (E.toV2 (stC [] [] (Cls w [g] [.sl (rv g l.length cap) 9 1 (l.map row)])) 8 (by kernel_rfl) (Sc.past rfl (Sc.stayD (fun _ hw => hw))) (Sc.atD (fun _ hw => hw.sel [1] (by decide) rfl)) ?_)
  refine V2.done (by kernel_rfl) ?_
  refine E.thenN (W.seq (W.region (L.y rfl (Y.move rfl) ?_)))
  refine L.y rfl (Y.assign rfl) ?_
  refine L.nil (E.thenN (W.ret (E.thenR (E.ret1 rfl rfl (fun w1 hw => ?_)))))
  exact ⟨_, rfl, by have h8 := hw; simp only [List.set_cons_zero] at h8; have h9 := h8.sublist (List.Sublist.cons_cons _ (List.nil_sublist _)); have hlm : (l.map row).length = l.length := List.length_map ..; rw [← hlm, ins_rows1 (by rw [List.length_map]; omega) (by simp)] at h9; simpa using h9⟩
set_option maxRecDepth 100000 in
set_option maxHeartbeats 8000000 in
theorem insRoom {α : Type} {row : α → List Value} (hrow : ∀ x : α, (row x).length = 1) (hpl : ∀ x : α, ∀ u ∈ row x, u.oneCell' = true) (l : List α) (x : α) (g cap a : Nat) (v : Value) (w : World) (b : Nat) (hlit : w.heap[b]? = some (.cells (row x).toArray 9 (0, 0))) (hbg : b ≠ g) (ha : a < l.length) (hg : l.length + 1 ≤ cap) (hl : l.length ≤ 1000000000) (hw : Cls w [g] [.sl (rv g l.length cap) 9 1 (l.map row)] w) :
    Calls Try.prog 28 [rv g l.length cap, .int .i64 (a : Nat), sv b 1].toArray w fun en w' => ∃ v', en = .returned v' ∧ Cls w [g] [.sl v' 9 1 ((l.take a ++ [x] ++ l.drop a).map row)] w' := by
  have litAt : At w (sv b 1) 1 ([x].map row) := lit_at (e := 9) hrow hlit
  have hub : (adr (sv b 1)).block ∉ [g] := by simpa [adr, sv] using hbg
  have litPlain : Plain ([x].map row) := plain_map hpl [x]
  have litPlainT : Plain (([x].map row).take 1) := litPlain
  have plainL : Plain (l.map row) := plain_map hpl l
  have ovl : ∀ {N2 lo N : Nat} {rows : List (List Value)} (w' : World), Cls w [g] [.sl (rv g N2 cap) 9 1 rows] w' → 0 < N2 → (callFunc 37 #[sv b 1, sliced (some ⟨g, 0, none⟩) lo N cap 1]).run Try.prog w' = .ok (.value (.bool false)) w' := by
    intro N2 lo N rows w' hc hn
    have hbl : b < w.heap.size := (Array.getElem?_eq_some_iff.1 hlit).1
    have hb' : w'.heap[b]? = some (.cells (row x).toArray 9 (0, 0)) := by rw [hc.old b hbl (by simpa using hbg)]; exact hlit
    obtain ⟨_, _, hown⟩ := hc.get (i := 0) rfl
    rcases hown with ⟨h0, _⟩ | ⟨g', cap', cur, hv, _, hh, hnc, _, hcs, _⟩
    · cases h0
    · have hN2 : N2 = rows.length := by simp only [Value.slice.injEq] at hv; exact hv.2.1
      cases hv
      have hk0 : cur.size ≠ 0 := by
        rw [hcs]
        have : rows.length * 1 ≤ cap * 1 := Nat.mul_le_mul_right _ hnc
        omega
      have key : ∀ ad : Addr, ad.block = g → (callFunc 37 #[sv b 1, .slice (some ad) (N - lo) (cap - lo)]).run Try.prog w' = .ok (.value (.bool false)) w' := by
        intro ad had
        rw [run_callFunc_extern Try.func37 (by kernel_rfl) (by kernel_rfl) (by kernel_rfl) (e := Extern.SlicesOverlaps.overlaps #[43, 43] #[4]) (by kernel_rfl)]
        have := Lib.run_overlaps_apart (P := Try.prog) w' 43 4 9 Try.underlying43 1 (fun w => Go.S.run_sizeOf sz9 w) ⟨b, 0, none⟩ ad 1 1 (N - lo) (cap - lo) (by rw [had]; exact hbg) 9 9 (row x).length cur.size
          (by simp [World.shape?, hb']) (by rw [had]; simp [World.shape?, hh]) hk0 (by simp [World.frozen?, hb']) (by simp [World.frozen?, hb'])
        unfold sv
        rw [this]
        rfl
      unfold sliced
      by_cases c : cap = lo
      · rw [if_pos c]; exact key _ rfl
      · rw [if_neg c]; exact key _ (by simp [Addr.add_lit])
  refine body (n := 95) Try.func28 rfl rfl rfl hw ?_
  refine W.seq (W.region (L.y rfl (Y.assign rfl) ?_))
  refine L.nil (E.thenN (W.seq (W.region (L.y rfl (Y.move rfl) ?_))))
  refine L.y rfl (Y.move rfl) ?_
  refine L.y rfl (Y.sliceLC (lo := a) Try.underlying43 sz9 rfl rfl (by first | omega | (simp only [List.length_drop, List.length_take, List.length_append, List.length_map, List.length_replicate, List.length_singleton, *] <;> omega))) ?_
  refine L.nil (E.thenN (W.seq (W.region (L.y rfl (Y.move rfl) ?_))))
  refine L.y rfl (Y.lenC Try.underlying43 rfl) ?_
  refine L.y rfl (Y.assign rfl) ?_
  refine L.nil (E.thenN (W.seq (W.seq (W.region (L.y rfl (Y.move rfl) ?_)))))
  refine L.y rfl (Y.as (congrArg Value.bool (decide_eq_false (by omega))) (Y.eql rfl rfl)) ?_
  refine L.nil (E.thenN (W.condF rfl ?_))
  refine W.skip (E.thenN (W.seq (W.region (L.y rfl (Y.move rfl) ?_))))
  refine L.y rfl (Y.lenC Try.underlying43 rfl) ?_
  refine L.y rfl (Y.assign rfl) ?_
  refine L.nil (E.thenN (W.seq (W.seq (W.region (L.y rfl (Y.move rfl) ?_)))))
  refine L.y rfl (Y.move rfl) ?_
  refine L.y rfl (Y.as (congrArg Value.bool (decide_eq_false (by omega))) (Y.eql rfl rfl)) ?_
  refine L.nil (E.thenN (W.condF rfl ?_))
  refine W.skip (E.thenN (W.seq (W.seq (W.region (L.y rfl (Y.move rfl) ?_)))))
  refine L.y rfl (Y.move rfl) ?_
  refine L.y rfl (Y.addN (p := l.length) (r := 1) rfl rfl (by omega)) ?_
  refine L.y rfl (Y.move rfl) ?_
  refine L.y rfl (Y.capC Try.underlying43 rfl) ?_
  refine L.y rfl (Y.as (congrArg Value.bool (decide_eq_false (by omega))) (Y.gtr rfl rfl)) ?_
  refine L.nil (E.thenN (W.condF rfl ?_))
  refine W.skip (E.thenN (W.seq (W.region (L.y rfl (Y.move rfl) ?_))))
  refine L.y rfl (Y.move rfl) ?_
  refine L.y rfl (Y.move rfl) ?_
  refine L.y rfl (Y.addN (p := l.length) (r := 1) rfl rfl (by omega)) ?_
  refine L.extend (i := 0) (g := g) (N := l.length) (cap := cap) (N' := l.length + 1) rfl (by first | omega | (simp only [List.length_drop, List.length_take, List.length_append, List.length_map, List.length_replicate, List.length_singleton, *] <;> omega)) (by first | omega | (simp only [List.length_drop, List.length_take, List.length_append, List.length_map, List.length_replicate, List.length_singleton, *] <;> omega)) (fun ex hex => ?_)
  refine L.y rfl (Y.sliceHC (hi := l.length + 1) Try.underlying43 sz9 rfl rfl (by first | omega | (simp only [List.length_drop, List.length_take, List.length_append, List.length_map, List.length_replicate, List.length_singleton, *] <;> omega))) ?_
  refine L.y rfl (Y.assign rfl) ?_
  refine L.nil (E.thenN (W.seq (W.seq (W.region (L.y rfl (Y.move rfl) ?_)))))
  refine L.y rfl (Y.move rfl) ?_
  refine L.y rfl (Y.move rfl) ?_
  refine L.y rfl (Y.move rfl) ?_
  refine L.y rfl (Y.addN (p := a) (r := 1) rfl rfl (by omega)) ?_
  refine L.y rfl (Y.sliceLC (lo := a + 1) Try.underlying43 sz9 rfl rfl (by first | omega | (simp only [List.length_drop, List.length_take, List.length_append, List.length_map, List.length_replicate, List.length_singleton, *] <;> omega))) ?_
  refine L.y rfl (Y.callVal (vs := [sv b 1, sliced (some ⟨g, 0, none⟩) (a + 1) (l.length + 1) cap 1]) rfl (fun w hw => ovl w hw (by omega))) ?_
  refine L.y rfl (Y.not rfl) ?_
  refine L.nil (E.thenN (W.condT rfl ?_))
  refine W.seq (W.drawn2 (k := 9) (stC [[8]] [Cls w [g] [.sl (rv g (l.length + 1) cap) 9 1 ((l.map row) ++ ex)]] (Cls w [g] [])) rfl mixed (fun _ hw => hw.drew) (Sc.now (by kernel_rfl) (fun _ hw => hw)) ?_)
  refine V2.y (i := 0) (Nx2.of (Z := Cls w [g] []) [] (by kernel_rfl) rfl (Zc.on (fun _ hw => hw.sel [] (by decide) rfl) (Zc.fin (fun _ hw => hw)))) rfl rfl rfl (Y.move rfl) ?_
  refine V2.y (i := 1) (Nx2.of (Z := Cls w [g] []) [] (by kernel_rfl) rfl (Zc.on (fun _ hw => hw.sel [] (by decide) rfl) (Zc.fin (fun _ hw => hw)))) rfl rfl rfl (Y.move rfl) ?_
  refine V2.y (i := 2) (Nx2.of (Z := Cls w [g] []) [] (by kernel_rfl) rfl (Zc.on (fun _ hw => hw.sel [] (by decide) rfl) (Zc.fin (fun _ hw => hw)))) rfl rfl rfl (Y.move rfl) ?_
  refine V2.y (i := 3) (Nx2.of (Z := Cls w [g] []) [] (by kernel_rfl) rfl (Zc.on (fun _ hw => hw.sel [] (by decide) rfl) (Zc.fin (fun _ hw => hw)))) rfl rfl rfl (Y.addN (p := a) (r := 1) rfl rfl (by omega)) ?_
  refine V2.y (i := 4) (Nx2.of (Z := Cls w [g] [.sl (rv g (l.length + 1) cap) 9 1 ((l.map row) ++ ex)]) [8] (by kernel_rfl) rfl (Zc.at1 (fun _ hw => hw))) rfl rfl rfl (Y.sliceLC (lo := a + 1) Try.underlying43 sz9 rfl rfl (by first | omega | (simp only [List.length_drop, List.length_take, List.length_append, List.length_map, List.length_replicate, List.length_singleton, *] <;> omega))) ?_
  refine V2.y (i := 5) (Nx2.of (Z := Cls w [g] []) [] (by kernel_rfl) rfl (Zc.on (fun _ hw => hw.sel [] (by decide) rfl) (Zc.fin (fun _ hw => hw)))) rfl rfl rfl (Y.move rfl) ?_
  refine V2.y (i := 6) (Nx2.of (Z := Cls w [g] []) [] (by kernel_rfl) rfl (Zc.on (fun _ hw => hw.sel [] (by decide) rfl) (Zc.fin (fun _ hw => hw)))) rfl rfl rfl (Y.move rfl) ?_
  refine V2.y (i := 7) (Nx2.of (Z := Cls w [g] [.sl (rv g (l.length + 1) cap) 9 1 ((l.map row) ++ ex)]) [8] (by kernel_rfl) rfl (Zc.at1 (fun _ hw => hw))) rfl rfl rfl (Y.sliceLC (lo := a) Try.underlying43 sz9 rfl rfl (by first | omega | (simp only [List.length_drop, List.length_take, List.length_append, List.length_map, List.length_replicate, List.length_singleton, *] <;> omega))) ?_
  refine V2.eff (i := 8) (by kernel_rfl) rfl ?_
  refine L.copyAt (i := 0) (a := a + 1) (N := l.length + 1) (cap := cap) (more := (((l.map row) ++ ex).drop a)) (q := (l.length - a)) rfl Try.underlying43 eL9 rfl rfl rfl (fun w hw => At.sliced (N := (l.length + 1)) (As.at_ (hw.get (i := 0) rfl)) (by first | omega | (simp only [List.length_drop, List.length_take, List.length_append, List.length_map, List.length_replicate, List.length_singleton, *] <;> omega))) (by first | omega | (simp only [List.length_drop, List.length_take, List.length_append, List.length_map, List.length_replicate, List.length_singleton, *] <;> omega)) (by first | omega | (simp only [List.length_drop, List.length_take, List.length_append, List.length_map, List.length_replicate, List.length_singleton, *] <;> omega)) (by first | omega | (simp only [List.length_drop, List.length_take, List.length_append, List.length_map, List.length_replicate, List.length_singleton, *] <;> omega)) (by intro r hr; exact plainL r (copied (by rw [List.length_map]; omega) (by rw [List.length_map]) hr)) (fun v3 => ?_)
  refine L.nil (E.toV2 (stC [] [] (Cls w [g] [])) 8 (by kernel_rfl) (Sc.past rfl (Sc.stayD (fun _ hw => hw))) (Sc.atD (fun _ hw => hw.sel [] (by decide) rfl)) ?_)
  refine V2.done (by kernel_rfl) ?_
  refine E.thenN (W.seq (W.region (L.y rfl (Y.move rfl) ?_)))
  refine L.y rfl (Y.move rfl) ?_
  refine L.y rfl (Y.sliceLC (lo := a) Try.underlying43 sz9 rfl rfl (by first | omega | (simp only [List.length_drop, List.length_take, List.length_append, List.length_map, List.length_replicate, List.length_singleton, *] <;> omega))) ?_
  refine L.y rfl (Y.move rfl) ?_
  refine L.copyAt (i := 0) (a := a) (N := l.length + 1) (cap := cap) (more := ([x].map row)) (q := 1) rfl Try.underlying43 eL9 rfl rfl rfl (fun w hw => litAt.cls hw hub) (by first | omega | (simp only [List.length_drop, List.length_take, List.length_append, List.length_map, List.length_replicate, List.length_singleton, *] <;> omega)) (by first | omega | (simp only [List.length_drop, List.length_take, List.length_append, List.length_map, List.length_replicate, List.length_singleton, *] <;> omega)) (by first | omega | (simp only [List.length_drop, List.length_take, List.length_append, List.length_map, List.length_replicate, List.length_singleton, *] <;> omega)) (litPlainT) (fun v3 => ?_)
  refine L.nil (E.thenN (W.seq (W.region (L.y rfl (Y.move rfl) ?_))))
  refine L.y rfl (Y.assign rfl) ?_
  refine L.nil (E.thenN (W.ret (E.thenR (E.ret1 rfl rfl (fun w1 hw => ?_)))))
  exact ⟨_, rfl, by have hlm : (l.map row).length = l.length := List.length_map ..; rw [← hlm] at hw hex; rw [ins_rows2 (by rw [hlm]; omega) (by simp) hex] at hw; simpa using hw⟩
end Go.Proofs.Ytdebhhjbgbkbjaa.rows28
namespace Go.Proofs.Ytdebhhjbgbkbjaa.rows30
open Go.S
set_option linter.unusedVariables false
set_option linter.unusedSimpArgs false
theorem mixed : Try.prog.follows .mixedOrders = true := by kernel_rfl
theorem eL42 : elemB Try.prog 42 1 8 = true := by kernel_rfl
theorem sz42 : szB Try.prog 42 1 = true := by kernel_rfl
theorem ze42 : zeroB Try.prog 42 = some [.pointer none] := by kernel_rfl
theorem plain_map {α : Type} {row : α → List Value} (hpl : ∀ x : α, ∀ u ∈ row x, u.oneCell' = true) (l : List α) : Plain (l.map row) := by
  intro r hr u hu
  obtain ⟨x, _, rfl⟩ := List.mem_map.1 hr
  exact hpl x u hu
theorem zcOne : ∀ u ∈ ([Value.pointer none] : List Value), u.oneCell' = true := by intro u hu; simp only [List.mem_cons, List.not_mem_nil, or_false] at hu; rcases hu with rfl <;> rfl
theorem del_rows {β : Type} {R : List β} {a b : Nat} {z : β} {q : Nat} (ha : a ≤ R.length) : (((R.take a ++ R.drop b ++ R.drop (a + (R.drop b).length)).take (a + (R.drop b).length)) ++ List.replicate q z).take (a + (R.drop b).length) = R.take a ++ R.drop b := by
  have e : (R.take a ++ R.drop b).length = a + (R.drop b).length := by rw [List.length_append, List.length_take, Nat.min_eq_left ha]
  rw [← e, List.take_left, List.take_left]
theorem ins_rows1 {β : Type} {R Y : List β} {z : β} {a : Nat} (ha : a < R.length) (hy : Y.length = 1) :
    ((R.take a ++ List.replicate (R.length + 1 - a) z).take a ++ Y.take 1 ++ (R.take a ++ List.replicate (R.length + 1 - a) z).drop (a + 1)).take (a + 1) ++ (R.drop a).take (R.length - a) ++ ((R.take a ++ List.replicate (R.length + 1 - a) z).take a ++ Y.take 1 ++ (R.take a ++ List.replicate (R.length + 1 - a) z).drop (a + 1)).drop (a + 1 + (R.length - a)) = R.take a ++ Y ++ R.drop a := by
  have e1 : (R.take a).length = a := by rw [List.length_take]; omega
  have e2 : (R.take a ++ List.replicate (R.length + 1 - a) z).take a = R.take a := List.take_left' e1
  have e3 : Y.take 1 = Y := List.take_of_length_le (by omega)
  have e4 : (R.take a ++ Y).length = a + 1 := by rw [List.length_append, e1, hy]
  have e5 : (R.drop a).take (R.length - a) = R.drop a := List.take_of_length_le (by rw [List.length_drop]; omega)
  have e6 : (R.take a ++ Y ++ (R.take a ++ List.replicate (R.length + 1 - a) z).drop (a + 1)).drop (a + 1 + (R.length - a)) = [] := List.drop_eq_nil_of_le (by simp only [List.length_append, List.length_drop, List.length_replicate, e1, hy]; omega)
  rw [e2, e3, e5, List.take_left' e4, e6, List.append_nil]
theorem ins_rows2 {β : Type} {R X Y : List β} {a : Nat} (ha : a < R.length) (hy : Y.length = 1) (hx : X.length = R.length + 1 - R.length) :
    ((R ++ X).take (a + 1) ++ ((R ++ X).drop a).take (R.length - a) ++ (R ++ X).drop (a + 1 + (R.length - a))).take a ++ Y.take 1 ++ ((R ++ X).take (a + 1) ++ ((R ++ X).drop a).take (R.length - a) ++ (R ++ X).drop (a + 1 + (R.length - a))).drop (a + 1) = R.take a ++ Y ++ R.drop a := by
  have e3 : Y.take 1 = Y := List.take_of_length_le (by omega)
  have e6 : ((R ++ X).drop a).take (R.length - a) = R.drop a := by
    rw [List.drop_append_of_le_length (by omega), List.take_left' (by rw [List.length_drop])]
  have e7 : (R ++ X).drop (a + 1 + (R.length - a)) = [] := List.drop_eq_nil_of_le (by rw [List.length_append]; omega)
  have e8 : ((R ++ X).take (a + 1)).length = a + 1 := by rw [List.length_take, List.length_append]; omega
  have e9 : ((R ++ X).take (a + 1) ++ R.drop a).take a = R.take a := by
    rw [List.take_append_of_le_length (by rw [e8]; omega), List.take_take, Nat.min_eq_left (by omega), List.take_append_of_le_length (by omega)]
  rw [e6, e7, List.append_nil, e3, e9, List.drop_left' e8]
theorem copied {β : Type} {R X : List β} {a q : Nat} {r : β} (ha : a ≤ R.length) (hq : q = R.length - a) (hr : r ∈ ((R ++ X).drop a).take q) : r ∈ R := by
  rw [List.drop_append_of_le_length ha, List.take_left' (by rw [List.length_drop, hq])] at hr
  exact List.mem_of_mem_drop hr
theorem lit_at {α : Type} {row : α → List Value} {x : α} {b : Nat} {e : TypeId} {w : World} (hrow : ∀ x : α, (row x).length = 1) (h : w.heap[b]? = some (.cells (row x).toArray e (0, 0))) : At w (sv b 1) 1 ([x].map row) := by
  refine ⟨.inr ⟨⟨b, 0, none⟩, 1, rfl, by simp, by simp [maxLen]⟩, ?_, ?_⟩
  · intro r hr
    simp only [List.map_cons, List.map_nil, List.mem_singleton] at hr
    rw [hr, hrow]
  · intro i r j y h1 h2
    cases i with
    | zero =>
      simp only [List.map_cons, List.map_nil, List.getElem?_cons_zero, Option.some.injEq] at h1
      subst h1
      simp [adr, sv, World.cell?, h, Addr.add_lit, h2]
    | succ i => simp at h1
set_option maxRecDepth 100000 in
set_option maxHeartbeats 8000000 in
theorem delWalk {α : Type} {row : α → List Value} (hrow : ∀ x : α, (row x).length = 1) (hpl : ∀ x : α, ∀ u ∈ row x, u.oneCell' = true) (l : List α) (g cap a b : Nat) (w : World) (hab : a < b) (hb : b ≤ l.length) (hc : l.length ≤ cap) (hl : l.length ≤ 1000000000) (hw : Cls w [g] [.sl (rv g l.length cap) 42 1 (l.map row)] w) :
    Calls Try.prog 45 [rv g l.length cap, .int .i64 (a : Nat), .int .i64 (b : Nat)].toArray w fun en w' => ∃ v', en = .returned v' ∧ Cls w [g] [.sl v' 42 1 ((l.take a ++ l.drop b).map row)] w' := by
  have plainL : Plain (l.map row) := plain_map hpl l
  refine body (n := 33) Try.func45 rfl rfl rfl hw ?_
  refine W.seq (W.region (L.y rfl (Y.assign rfl) ?_))
  refine L.nil (E.thenN (W.seq (W.region (L.y rfl (Y.move rfl) ?_))))
  refine L.y rfl (Y.move rfl) ?_
  refine L.y rfl (Y.move rfl) ?_
  refine L.y rfl (Y.move rfl) ?_
  refine L.y rfl (Y.lenC Try.underlying44 rfl) ?_
  refine L.y rfl (Y.slice3C (lo := a) (hi := b) (mx := l.length) Try.underlying44 sz42 rfl rfl rfl rfl (by first | omega | (simp only [List.length_drop, List.length_take, List.length_append, List.length_map, List.length_replicate, List.length_singleton, *] <;> omega)) (by first | omega | (simp only [List.length_drop, List.length_take, List.length_append, List.length_map, List.length_replicate, List.length_singleton, *] <;> omega)) (by first | omega | (simp only [List.length_drop, List.length_take, List.length_append, List.length_map, List.length_replicate, List.length_singleton, *] <;> omega))) ?_
  refine L.nil (E.thenN (W.seq (W.seq (W.region (L.y rfl (Y.move rfl) ?_)))))
  refine L.y rfl (Y.move rfl) ?_
  refine L.y rfl (Y.as (congrArg Value.bool (decide_eq_false (by omega))) (Y.eql rfl rfl)) ?_
  refine L.nil (E.thenN (W.condF rfl ?_))
  refine W.skip (E.thenN (W.seq (W.region (L.y rfl (Y.move rfl) ?_))))
  refine L.y rfl (Y.lenC Try.underlying44 rfl) ?_
  refine L.y rfl (Y.assign rfl) ?_
  refine L.nil (E.thenN (W.seq (W.drawn2 (k := 8) (stC [[6]] [Cls w [g] [.sl (rv g l.length cap) 42 1 (l.map row)]] (Cls w [g] [])) rfl mixed (fun _ hw => hw.drew) (Sc.now (by kernel_rfl) (fun _ hw => hw)) ?_)))
  refine V2.y (i := 0) (Nx2.of (Z := Cls w [g] []) [] (by kernel_rfl) rfl (Zc.on (fun _ hw => hw.sel [] (by decide) rfl) (Zc.fin (fun _ hw => hw)))) rfl rfl rfl (Y.move rfl) ?_
  refine V2.y (i := 1) (Nx2.of (Z := Cls w [g] []) [] (by kernel_rfl) rfl (Zc.on (fun _ hw => hw.sel [] (by decide) rfl) (Zc.fin (fun _ hw => hw)))) rfl rfl rfl (Y.move rfl) ?_
  refine V2.y (i := 2) (Nx2.of (Z := Cls w [g] [.sl (rv g l.length cap) 42 1 (l.map row)]) [6] (by kernel_rfl) rfl (Zc.at1 (fun _ hw => hw))) rfl rfl rfl (Y.sliceHC (hi := a) Try.underlying44 sz42 rfl rfl (by first | omega | (simp only [List.length_drop, List.length_take, List.length_append, List.length_map, List.length_replicate, List.length_singleton, *] <;> omega))) ?_
  refine V2.y (i := 3) (Nx2.of (Z := Cls w [g] []) [] (by kernel_rfl) rfl (Zc.on (fun _ hw => hw.sel [] (by decide) rfl) (Zc.fin (fun _ hw => hw)))) rfl rfl rfl (Y.move rfl) ?_
  refine V2.y (i := 4) (Nx2.of (Z := Cls w [g] []) [] (by kernel_rfl) rfl (Zc.on (fun _ hw => hw.sel [] (by decide) rfl) (Zc.fin (fun _ hw => hw)))) rfl rfl rfl (Y.move rfl) ?_
  refine V2.y (i := 5) (Nx2.of (Z := Cls w [g] [.sl (rv g l.length cap) 42 1 (l.map row)]) [6] (by kernel_rfl) rfl (Zc.at1 (fun _ hw => hw))) rfl rfl rfl (Y.sliceLC (lo := b) Try.underlying44 sz42 rfl rfl (by first | omega | (simp only [List.length_drop, List.length_take, List.length_append, List.length_map, List.length_replicate, List.length_singleton, *] <;> omega))) ?_
  refine V2.eff (i := 6) (by kernel_rfl) rfl ?_
  refine L.appOver (i := 0) (a := a) (news := (l.map row).drop b) rfl Try.underlying44 eL42 rfl rfl rfl (fun w hw => At.sliced (As.at_ (hw.get (i := 0) rfl)) (by first | omega | (simp only [List.length_drop, List.length_take, List.length_append, List.length_map, List.length_replicate, List.length_singleton, *] <;> omega))) (by first | omega | (simp only [List.length_drop, List.length_take, List.length_append, List.length_map, List.length_replicate, List.length_singleton, *] <;> omega)) (by first | omega | (simp only [List.length_drop, List.length_take, List.length_append, List.length_map, List.length_replicate, List.length_singleton, *] <;> omega)) (fun r hr => plainL r (List.mem_of_mem_drop hr)) ?_
  refine L.nil (E.toV2 (stC [] [] (Cls w [g] [])) 6 (by kernel_rfl) (Sc.past rfl (Sc.stayD (fun _ hw => hw))) (Sc.atD (fun _ hw => hw.sel [] (by decide) rfl)) ?_)
  refine V2.y (i := 7) (Nx2.of (Z := Cls w [g] []) [] (by kernel_rfl) rfl (Zc.fin (fun _ hw => hw))) rfl rfl rfl (Y.assign rfl) ?_
  refine V2.done (by kernel_rfl) ?_
  refine E.thenN (W.seq (W.region (L.y rfl (Y.move rfl) ?_)))
  refine L.y rfl (Y.move rfl) ?_
  refine L.y rfl (Y.lenC Try.underlying44 rfl) ?_
  refine L.y rfl (Y.move rfl) ?_
  refine L.y rfl (Y.sliceLHC (lo := a + ((l.map row).drop b).length) (hi := l.length) Try.underlying44 sz42 rfl rfl rfl (by first | omega | (simp only [List.length_drop, List.length_take, List.length_append, List.length_map, List.length_replicate, List.length_singleton, *] <;> omega)) (by first | omega | (simp only [List.length_drop, List.length_take, List.length_append, List.length_map, List.length_replicate, List.length_singleton, *] <;> omega))) ?_
  refine L.clear (i := 0) (v := rv g l.length cap) (rows := ((l.map row).take a ++ (l.map row).drop b ++ (l.map row).drop (a + ((l.map row).drop b).length))) (a := a + ((l.map row).drop b).length) Try.underlying44 eL42 ze42 (fun u hu => zcOne u hu) (congrArg some (sliced_drop (by first | omega | (simp only [List.length_drop, List.length_take, List.length_append, List.length_map, List.length_replicate, List.length_singleton, *] <;> omega)) (by first | omega | (simp only [List.length_drop, List.length_take, List.length_append, List.length_map, List.length_replicate, List.length_singleton, *] <;> omega)))) rfl (by first | omega | (simp only [List.length_drop, List.length_take, List.length_append, List.length_map, List.length_replicate, List.length_singleton, *] <;> omega)) ?_
  refine L.nil (E.thenN (W.seq (W.region (L.y rfl (Y.move rfl) ?_))))
  refine L.y rfl (Y.assign rfl) ?_
  refine L.nil (E.thenN (W.ret (E.ret1 rfl rfl (fun w1 hw => ?_))))
  exact ⟨_, rfl, by have h9 := hw.shrink (i := 0) (N' := a + (List.drop b (l.map row)).length) rfl (by simp only [List.length_append, List.length_take, List.length_drop, List.length_map, List.length_replicate]; omega); rw [del_rows (by rw [List.length_map]; omega)] at h9; simpa using h9⟩
set_option maxRecDepth 100000 in
set_option maxHeartbeats 8000000 in
theorem insEnd {α : Type} {row : α → List Value} (hrow : ∀ x : α, (row x).length = 1) (hpl : ∀ x : α, ∀ u ∈ row x, u.oneCell' = true) (l : List α) (x : α) (g cap a : Nat) (v : Value) (w : World) (b : Nat) (hlit : w.heap[b]? = some (.cells (row x).toArray 42 (0, 0))) (hbg : b ≠ g) (ha : a = l.length) (hl : l.length ≤ 1000000000) (hw : Cls w [g] [.sl v 42 1 (l.map row)] w) :
    Calls Try.prog 30 [v, .int .i64 (a : Nat), sv b 1].toArray w fun en w' => ∃ v', en = .returned v' ∧ Cls w [g] [.sl v' 42 1 ((l.take a ++ [x] ++ l.drop a).map row)] w' := by
  have litAt : At w (sv b 1) 1 ([x].map row) := lit_at (e := 42) hrow hlit
  have hub : (adr (sv b 1)).block ∉ [g] := by simpa [adr, sv] using hbg
  have litPlain : Plain ([x].map row) := plain_map hpl [x]
  have litPlainT : Plain (([x].map row).take 1) := litPlain
  have plainL : Plain (l.map row) := plain_map hpl l
  refine body (n := 95) Try.func30 rfl rfl rfl hw ?_
  refine W.seq (W.region (L.y rfl (Y.assign rfl) ?_))
  refine L.nil (E.thenN (W.seq (W.region (L.y rfl (Y.move rfl) ?_))))
  refine L.y rfl (Y.move rfl) ?_
  refine L.y rfl (Y.dropA Try.underlying44 sz42 rfl rfl (fun w hw => As.at_ (hw.get (i := 0) rfl)) (by first | omega | (simp only [List.length_drop, List.length_take, List.length_append, List.length_map, List.length_replicate, List.length_singleton, *] <;> omega)) (by simp; omega)) ?_
  refine L.nil (E.thenN (W.seq (W.region (L.y rfl (Y.move rfl) ?_))))
  refine L.y rfl (Y.lenC Try.underlying44 rfl) ?_
  refine L.y rfl (Y.assign rfl) ?_
  refine L.nil (E.thenN (W.seq (W.seq (W.region (L.y rfl (Y.move rfl) ?_)))))
  refine L.y rfl (Y.as (congrArg Value.bool (decide_eq_false (by omega))) (Y.eql rfl rfl)) ?_
  refine L.nil (E.thenN (W.condF rfl ?_))
  refine W.skip (E.thenN (W.seq (W.region (L.y rfl (Y.move rfl) ?_))))
  refine L.y rfl (Y.lenM (g := row) (l := l) Try.underlying44 rfl (fun w hw => As.at_ (hw.get (i := 0) rfl))) ?_
  refine L.y rfl (Y.assign rfl) ?_
  refine L.nil (E.thenN (W.seq (W.seq (W.region (L.y rfl (Y.move rfl) ?_)))))
  refine L.y rfl (Y.move rfl) ?_
  refine L.y rfl (Y.as (congrArg Value.bool (decide_eq_true (by omega))) (Y.eql rfl rfl)) ?_
  refine L.nil (E.thenN (W.condT rfl ?_))
  refine W.seq (W.region (L.y rfl (Y.move rfl) ?_))
  refine L.y rfl (Y.move rfl) ?_
  refine L.append (i := 0) rfl Try.underlying44 eL42 rfl rfl rfl (fun w hw => litAt.cls hw hub) litPlain (by simp only [maxLen, List.length_map, List.length_singleton]; omega) (by simp only [List.length_map, List.length_singleton]; omega) (fun v2 => ?_)
  refine L.y rfl (Y.assign rfl) ?_
  refine L.nil (E.thenN (W.ret (E.thenR (E.ret1 rfl rfl (fun w1 hw => ?_)))))
  exact ⟨_, rfl, by subst ha; simpa using hw⟩
set_option maxRecDepth 100000 in
set_option maxHeartbeats 8000000 in
theorem insGrow {α : Type} {row : α → List Value} (hrow : ∀ x : α, (row x).length = 1) (hpl : ∀ x : α, ∀ u ∈ row x, u.oneCell' = true) (l : List α) (x : α) (g cap a : Nat) (v : Value) (w : World) (b : Nat) (hlit : w.heap[b]? = some (.cells (row x).toArray 42 (0, 0))) (hbg : b ≠ g) (ha : a < l.length) (hc : l.length ≤ cap) (hg : cap < l.length + 1) (hl : l.length ≤ 1000000000) (hw : Cls w [g] [.sl (rv g l.length cap) 42 1 (l.map row)] w) :
    Calls Try.prog 30 [rv g l.length cap, .int .i64 (a : Nat), sv b 1].toArray w fun en w' => ∃ v', en = .returned v' ∧ Cls w [g] [.sl v' 42 1 ((l.take a ++ [x] ++ l.drop a).map row)] w' := by
  have litAt : At w (sv b 1) 1 ([x].map row) := lit_at (e := 42) hrow hlit
  have hub : (adr (sv b 1)).block ∉ [g] := by simpa [adr, sv] using hbg
  have litPlain : Plain ([x].map row) := plain_map hpl [x]
  have litPlainT : Plain (([x].map row).take 1) := litPlain
  have plainL : Plain (l.map row) := plain_map hpl l
  refine body (n := 95) Try.func30 rfl rfl rfl hw ?_
  refine W.seq (W.region (L.y rfl (Y.assign rfl) ?_))
  refine L.nil (E.thenN (W.seq (W.region (L.y rfl (Y.move rfl) ?_))))
  refine L.y rfl (Y.move rfl) ?_
  refine L.y rfl (Y.sliceLC (lo := a) Try.underlying44 sz42 rfl rfl (by first | omega | (simp only [List.length_drop, List.length_take, List.length_append, List.length_map, List.length_replicate, List.length_singleton, *] <;> omega))) ?_
  refine L.nil (E.thenN (W.seq (W.region (L.y rfl (Y.move rfl) ?_))))
  refine L.y rfl (Y.lenC Try.underlying44 rfl) ?_
  refine L.y rfl (Y.assign rfl) ?_
  refine L.nil (E.thenN (W.seq (W.seq (W.region (L.y rfl (Y.move rfl) ?_)))))
  refine L.y rfl (Y.as (congrArg Value.bool (decide_eq_false (by omega))) (Y.eql rfl rfl)) ?_
  refine L.nil (E.thenN (W.condF rfl ?_))
  refine W.skip (E.thenN (W.seq (W.region (L.y rfl (Y.move rfl) ?_))))
  refine L.y rfl (Y.lenC Try.underlying44 rfl) ?_
  refine L.y rfl (Y.assign rfl) ?_
  refine L.nil (E.thenN (W.seq (W.seq (W.region (L.y rfl (Y.move rfl) ?_)))))
  refine L.y rfl (Y.move rfl) ?_
  refine L.y rfl (Y.as (congrArg Value.bool (decide_eq_false (by omega))) (Y.eql rfl rfl)) ?_
  refine L.nil (E.thenN (W.condF rfl ?_))
  refine W.skip (E.thenN (W.seq (W.seq (W.region (L.y rfl (Y.move rfl) ?_)))))
  refine L.y rfl (Y.move rfl) ?_
  refine L.y rfl (Y.addN (p := l.length) (r := 1) rfl rfl (by omega)) ?_
  refine L.y rfl (Y.move rfl) ?_
  refine L.y rfl (Y.capC Try.underlying44 rfl) ?_
  refine L.y rfl (Y.as (congrArg Value.bool (decide_eq_true (by omega))) (Y.gtr rfl rfl)) ?_
  refine L.nil (E.thenN (W.condT rfl ?_))
  refine W.seq (W.region (L.y rfl (Y.move rfl) ?_))
  refine L.y rfl (Y.move rfl) ?_
  refine L.y rfl (Y.sliceHC (hi := a) Try.underlying44 sz42 rfl rfl (by first | omega | (simp only [List.length_drop, List.length_take, List.length_append, List.length_map, List.length_replicate, List.length_singleton, *] <;> omega))) ?_
  refine L.y rfl (Y.move rfl) ?_
  refine L.y rfl (Y.move rfl) ?_
  refine L.y rfl (Y.addN (p := l.length) (r := 1) rfl rfl (by omega)) ?_
  refine L.y rfl (Y.move rfl) ?_
  refine L.y rfl (Y.subN (p := l.length + 1) (r := a) rfl rfl (by omega) (by omega)) ?_
  refine L.appFreshZ (i := 0) (a := a) (cnt := (l.length + 1) - a) rfl Try.underlying44 Try.underlying3 eL42 ze42 rfl rfl rfl (by first | omega | (simp only [List.length_drop, List.length_take, List.length_append, List.length_map, List.length_replicate, List.length_singleton, *] <;> omega)) (by first | omega | (simp only [List.length_drop, List.length_take, List.length_append, List.length_map, List.length_replicate, List.length_singleton, *] <;> omega)) (by simp only [maxLen]; omega) (by first | omega | (simp only [List.length_drop, List.length_take, List.length_append, List.length_map, List.length_replicate, List.length_singleton, *] <;> omega)) (by first | omega | (simp only [List.length_drop, List.length_take, List.length_append, List.length_map, List.length_replicate, List.length_singleton, *] <;> omega)) (fun g2 cap2 hc2 => ?_)
  refine L.y rfl (Y.assign rfl) ?_
  refine L.nil (E.thenN (W.seq (W.region (L.y rfl (Y.move rfl) ?_))))
  refine L.y rfl (Y.move rfl) ?_
  refine L.y rfl (Y.sliceLC (lo := a) Try.underlying44 sz42 rfl rfl (by first | omega | (simp only [List.length_drop, List.length_take, List.length_append, List.length_map, List.length_replicate, List.length_singleton, *] <;> omega))) ?_
  refine L.y rfl (Y.move rfl) ?_
  refine L.copyAt (i := 0) (a := a) (N := a + ((l.length + 1) - a)) (cap := cap2) (more := ([x].map row)) (q := 1) rfl Try.underlying44 eL42 rfl rfl rfl (fun w hw => litAt.cls hw hub) (by first | omega | (simp only [List.length_drop, List.length_take, List.length_append, List.length_map, List.length_replicate, List.length_singleton, *] <;> omega)) (by first | omega | (simp only [List.length_drop, List.length_take, List.length_append, List.length_map, List.length_replicate, List.length_singleton, *] <;> omega)) (by first | omega | (simp only [List.length_drop, List.length_take, List.length_append, List.length_map, List.length_replicate, List.length_singleton, *] <;> omega)) (litPlainT) (fun v3 => ?_)
  refine L.nil (E.thenN (W.seq (W.drawn2 (k := 9) (stC [[8]] [Cls w [g] [.sl (rv g2 (a + ((l.length + 1) - a)) cap2) 42 1 (((l.map row).take a ++ List.replicate ((l.length + 1) - a) [Value.pointer none]).take a ++ ([x].map row).take 1 ++ ((l.map row).take a ++ List.replicate ((l.length + 1) - a) [Value.pointer none]).drop (a + 1)), .sl (rv g l.length cap) 42 1 (l.map row)]] (Cls w [g] [.sl (rv g l.length cap) 42 1 (l.map row)])) rfl mixed (fun _ hw => hw.drew) (Sc.now (by kernel_rfl) (fun _ hw => hw)) ?_)))
  refine V2.y (i := 0) (Nx2.of (Z := Cls w [g] [.sl (rv g l.length cap) 42 1 (l.map row)]) [] (by kernel_rfl) rfl (Zc.on (fun _ hw => hw.sel [1] (by decide) rfl) (Zc.fin (fun _ hw => hw)))) rfl rfl rfl (Y.move rfl) ?_
  refine V2.y (i := 1) (Nx2.of (Z := Cls w [g] [.sl (rv g l.length cap) 42 1 (l.map row)]) [] (by kernel_rfl) rfl (Zc.on (fun _ hw => hw.sel [1] (by decide) rfl) (Zc.fin (fun _ hw => hw)))) rfl rfl rfl (Y.move rfl) ?_
  refine V2.y (i := 2) (Nx2.of (Z := Cls w [g] [.sl (rv g l.length cap) 42 1 (l.map row)]) [] (by kernel_rfl) rfl (Zc.on (fun _ hw => hw.sel [1] (by decide) rfl) (Zc.fin (fun _ hw => hw)))) rfl rfl rfl (Y.move rfl) ?_
  refine V2.y (i := 3) (Nx2.of (Z := Cls w [g] [.sl (rv g l.length cap) 42 1 (l.map row)]) [] (by kernel_rfl) rfl (Zc.on (fun _ hw => hw.sel [1] (by decide) rfl) (Zc.fin (fun _ hw => hw)))) rfl rfl rfl (Y.addN (p := a) (r := 1) rfl rfl (by omega)) ?_
  refine V2.y (i := 4) (Nx2.of (Z := Cls w [g] [.sl (rv g2 (a + ((l.length + 1) - a)) cap2) 42 1 (((l.map row).take a ++ List.replicate ((l.length + 1) - a) [Value.pointer none]).take a ++ ([x].map row).take 1 ++ ((l.map row).take a ++ List.replicate ((l.length + 1) - a) [Value.pointer none]).drop (a + 1)), .sl (rv g l.length cap) 42 1 (l.map row)]) [8] (by kernel_rfl) rfl (Zc.at1 (fun _ hw => hw))) rfl rfl rfl (Y.sliceLC (lo := a + 1) Try.underlying44 sz42 rfl rfl (by first | omega | (simp only [List.length_drop, List.length_take, List.length_append, List.length_map, List.length_replicate, List.length_singleton, *] <;> omega))) ?_
  refine V2.y (i := 5) (Nx2.of (Z := Cls w [g] [.sl (rv g l.length cap) 42 1 (l.map row)]) [] (by kernel_rfl) rfl (Zc.on (fun _ hw => hw.sel [1] (by decide) rfl) (Zc.fin (fun _ hw => hw)))) rfl rfl rfl (Y.move rfl) ?_
  refine V2.y (i := 6) (Nx2.of (Z := Cls w [g] [.sl (rv g l.length cap) 42 1 (l.map row)]) [] (by kernel_rfl) rfl (Zc.on (fun _ hw => hw.sel [1] (by decide) rfl) (Zc.fin (fun _ hw => hw)))) rfl rfl rfl (Y.move rfl) ?_
  refine V2.y (i := 7) (Nx2.of (Z := Cls w [g] [.sl (rv g l.length cap) 42 1 (l.map row)]) [] (by kernel_rfl) rfl (Zc.on (fun _ hw => hw.sel [1] (by decide) rfl) (Zc.fin (fun _ hw => hw)))) rfl rfl rfl (Y.sliceLC (lo := a) Try.underlying44 sz42 rfl rfl (by first | omega | (simp only [List.length_drop, List.length_take, List.length_append, List.length_map, List.length_replicate, List.length_singleton, *] <;> omega))) ?_
  refine V2.eff (i := 8) (by kernel_rfl) rfl ?_
  refine L.copyAt (i := 0) (a := a + 1) (N := a + ((l.length + 1) - a)) (cap := cap2) (more := ((l.map row).drop a)) (q := (l.length - a)) rfl Try.underlying44 eL42 rfl rfl rfl (fun w hw => At.sliced (N := l.length) (As.at_ (hw.get (i := 1) rfl)) (by first | omega | (simp only [List.length_drop, List.length_take, List.length_append, List.length_map, List.length_replicate, List.length_singleton, *] <;> omega))) (by first | omega | (simp only [List.length_drop, List.length_take, List.length_append, List.length_map, List.length_replicate, List.length_singleton, *] <;> omega)) (by first | omega | (simp only [List.length_drop, List.length_take, List.length_append, List.length_map, List.length_replicate, List.length_singleton, *] <;> omega)) (by first | omega | (simp only [List.length_drop, List.length_take, List.length_append, List.length_map, List.length_replicate, List.length_singleton, *] <;> omega)) (by intro r hr; exact plainL r (List.mem_of_mem_drop (List.mem_of_mem_take hr))) (fun v3 => ?_)
  refine L.nil (E.toV2 (stC [] [] (Cls w [g] [.sl (rv g l.length cap) 42 1 (l.map row)])) 8 (by kernel_rfl) (Sc.past rfl (Sc.stayD (fun _ hw => hw))) (Sc.atD (fun _ hw => hw.sel [1] (by decide) rfl)) ?_)
  refine V2.done (by kernel_rfl) ?_
  refine E.thenN (W.seq (W.region (L.y rfl (Y.move rfl) ?_)))
  refine L.y rfl (Y.assign rfl) ?_
  refine L.nil (E.thenN (W.ret (E.thenR (E.ret1 rfl rfl (fun w1 hw => ?_)))))
  exact ⟨_, rfl, by have h8 := hw; simp only [List.set_cons_zero] at h8; have h9 := h8.sublist (List.Sublist.cons_cons _ (List.nil_sublist _)); have hlm : (l.map row).length = l.length := List.length_map ..; rw [← hlm, ins_rows1 (by rw [List.length_map]; omega) (by simp)] at h9; simpa using h9⟩
set_option maxRecDepth 100000 in
set_option maxHeartbeats 8000000 in
theorem insRoom {α : Type} {row : α → List Value} (hrow : ∀ x : α, (row x).length = 1) (hpl : ∀ x : α, ∀ u ∈ row x, u.oneCell' = true) (l : List α) (x : α) (g cap a : Nat) (v : Value) (w : World) (b : Nat) (hlit : w.heap[b]? = some (.cells (row x).toArray 42 (0, 0))) (hbg : b ≠ g) (ha : a < l.length) (hg : l.length + 1 ≤ cap) (hl : l.length ≤ 1000000000) (hw : Cls w [g] [.sl (rv g l.length cap) 42 1 (l.map row)] w) :
    Calls Try.prog 30 [rv g l.length cap, .int .i64 (a : Nat), sv b 1].toArray w fun en w' => ∃ v', en = .returned v' ∧ Cls w [g] [.sl v' 42 1 ((l.take a ++ [x] ++ l.drop a).map row)] w' := by
  have litAt : At w (sv b 1) 1 ([x].map row) := lit_at (e := 42) hrow hlit
  have hub : (adr (sv b 1)).block ∉ [g] := by simpa [adr, sv] using hbg
  have litPlain : Plain ([x].map row) := plain_map hpl [x]
  have litPlainT : Plain (([x].map row).take 1) := litPlain
  have plainL : Plain (l.map row) := plain_map hpl l
  have ovl : ∀ {N2 lo N : Nat} {rows : List (List Value)} (w' : World), Cls w [g] [.sl (rv g N2 cap) 42 1 rows] w' → 0 < N2 → (callFunc 42 #[sv b 1, sliced (some ⟨g, 0, none⟩) lo N cap 1]).run Try.prog w' = .ok (.value (.bool false)) w' := by
    intro N2 lo N rows w' hc hn
    have hbl : b < w.heap.size := (Array.getElem?_eq_some_iff.1 hlit).1
    have hb' : w'.heap[b]? = some (.cells (row x).toArray 42 (0, 0)) := by rw [hc.old b hbl (by simpa using hbg)]; exact hlit
    obtain ⟨_, _, hown⟩ := hc.get (i := 0) rfl
    rcases hown with ⟨h0, _⟩ | ⟨g', cap', cur, hv, _, hh, hnc, _, hcs, _⟩
    · cases h0
    · have hN2 : N2 = rows.length := by simp only [Value.slice.injEq] at hv; exact hv.2.1
      cases hv
      have hk0 : cur.size ≠ 0 := by
        rw [hcs]
        have : rows.length * 1 ≤ cap * 1 := Nat.mul_le_mul_right _ hnc
        omega
      have key : ∀ ad : Addr, ad.block = g → (callFunc 42 #[sv b 1, .slice (some ad) (N - lo) (cap - lo)]).run Try.prog w' = .ok (.value (.bool false)) w' := by
        intro ad had
        rw [run_callFunc_extern Try.func42 (by kernel_rfl) (by kernel_rfl) (by kernel_rfl) (e := Extern.SlicesOverlaps.overlaps #[44, 44] #[4]) (by kernel_rfl)]
        have := Lib.run_overlaps_apart (P := Try.prog) w' 44 4 42 Try.underlying44 1 (fun w => Go.S.run_sizeOf sz42 w) ⟨b, 0, none⟩ ad 1 1 (N - lo) (cap - lo) (by rw [had]; exact hbg) 42 42 (row x).length cur.size
          (by simp [World.shape?, hb']) (by rw [had]; simp [World.shape?, hh]) hk0 (by simp [World.frozen?, hb']) (by simp [World.frozen?, hb'])
        unfold sv
        rw [this]
        rfl
      unfold sliced
      by_cases c : cap = lo
      · rw [if_pos c]; exact key _ rfl
      · rw [if_neg c]; exact key _ (by simp [Addr.add_lit])
  refine body (n := 95) Try.func30 rfl rfl rfl hw ?_
  refine W.seq (W.region (L.y rfl (Y.assign rfl) ?_))
  refine L.nil (E.thenN (W.seq (W.region (L.y rfl (Y.move rfl) ?_))))
  refine L.y rfl (Y.move rfl) ?_
  refine L.y rfl (Y.sliceLC (lo := a) Try.underlying44 sz42 rfl rfl (by first | omega | (simp only [List.length_drop, List.length_take, List.length_append, List.length_map, List.length_replicate, List.length_singleton, *] <;> omega))) ?_
  refine L.nil (E.thenN (W.seq (W.region (L.y rfl (Y.move rfl) ?_))))
  refine L.y rfl (Y.lenC Try.underlying44 rfl) ?_
  refine L.y rfl (Y.assign rfl) ?_
  refine L.nil (E.thenN (W.seq (W.seq (W.region (L.y rfl (Y.move rfl) ?_)))))
  refine L.y rfl (Y.as (congrArg Value.bool (decide_eq_false (by omega))) (Y.eql rfl rfl)) ?_
  refine L.nil (E.thenN (W.condF rfl ?_))
  refine W.skip (E.thenN (W.seq (W.region (L.y rfl (Y.move rfl) ?_))))
  refine L.y rfl (Y.lenC Try.underlying44 rfl) ?_
  refine L.y rfl (Y.assign rfl) ?_
  refine L.nil (E.thenN (W.seq (W.seq (W.region (L.y rfl (Y.move rfl) ?_)))))
  refine L.y rfl (Y.move rfl) ?_
  refine L.y rfl (Y.as (congrArg Value.bool (decide_eq_false (by omega))) (Y.eql rfl rfl)) ?_
  refine L.nil (E.thenN (W.condF rfl ?_))
  refine W.skip (E.thenN (W.seq (W.seq (W.region (L.y rfl (Y.move rfl) ?_)))))
  refine L.y rfl (Y.move rfl) ?_
  refine L.y rfl (Y.addN (p := l.length) (r := 1) rfl rfl (by omega)) ?_
  refine L.y rfl (Y.move rfl) ?_
  refine L.y rfl (Y.capC Try.underlying44 rfl) ?_
  refine L.y rfl (Y.as (congrArg Value.bool (decide_eq_false (by omega))) (Y.gtr rfl rfl)) ?_
  refine L.nil (E.thenN (W.condF rfl ?_))
  refine W.skip (E.thenN (W.seq (W.region (L.y rfl (Y.move rfl) ?_))))
  refine L.y rfl (Y.move rfl) ?_
  refine L.y rfl (Y.move rfl) ?_
  refine L.y rfl (Y.addN (p := l.length) (r := 1) rfl rfl (by omega)) ?_
  refine L.extend (i := 0) (g := g) (N := l.length) (cap := cap) (N' := l.length + 1) rfl (by first | omega | (simp only [List.length_drop, List.length_take, List.length_append, List.length_map, List.length_replicate, List.length_singleton, *] <;> omega)) (by first | omega | (simp only [List.length_drop, List.length_take, List.length_append, List.length_map, List.length_replicate, List.length_singleton, *] <;> omega)) (fun ex hex => ?_)
  refine L.y rfl (Y.sliceHC (hi := l.length + 1) Try.underlying44 sz42 rfl rfl (by first | omega | (simp only [List.length_drop, List.length_take, List.length_append, List.length_map, List.length_replicate, List.length_singleton, *] <;> omega))) ?_
  refine L.y rfl (Y.assign rfl) ?_
  refine L.nil (E.thenN (W.seq (W.seq (W.region (L.y rfl (Y.move rfl) ?_)))))
  refine L.y rfl (Y.move rfl) ?_
  refine L.y rfl (Y.move rfl) ?_
  refine L.y rfl (Y.move rfl) ?_
  refine L.y rfl (Y.addN (p := a) (r := 1) rfl rfl (by omega)) ?_
  refine L.y rfl (Y.sliceLC (lo := a + 1) Try.underlying44 sz42 rfl rfl (by first | omega | (simp only [List.length_drop, List.length_take, List.length_append, List.length_map, List.length_replicate, List.length_singleton, *] <;> omega))) ?_
  refine L.y rfl (Y.callVal (vs := [sv b 1, sliced (some ⟨g, 0, none⟩) (a + 1) (l.length + 1) cap 1]) rfl (fun w hw => ovl w hw (by omega))) ?_
  refine L.y rfl (Y.not rfl) ?_
  refine L.nil (E.thenN (W.condT rfl ?_))
  refine W.seq (W.drawn2 (k := 9) (stC [[8]] [Cls w [g] [.sl (rv g (l.length + 1) cap) 42 1 ((l.map row) ++ ex)]] (Cls w [g] [])) rfl mixed (fun _ hw => hw.drew) (Sc.now (by kernel_rfl) (fun _ hw => hw)) ?_)
  refine V2.y (i := 0) (Nx2.of (Z := Cls w [g] []) [] (by kernel_rfl) rfl (Zc.on (fun _ hw => hw.sel [] (by decide) rfl) (Zc.fin (fun _ hw => hw)))) rfl rfl rfl (Y.move rfl) ?_
  refine V2.y (i := 1) (Nx2.of (Z := Cls w [g] []) [] (by kernel_rfl) rfl (Zc.on (fun _ hw => hw.sel [] (by decide) rfl) (Zc.fin (fun _ hw => hw)))) rfl rfl rfl (Y.move rfl) ?_
  refine V2.y (i := 2) (Nx2.of (Z := Cls w [g] []) [] (by kernel_rfl) rfl (Zc.on (fun _ hw => hw.sel [] (by decide) rfl) (Zc.fin (fun _ hw => hw)))) rfl rfl rfl (Y.move rfl) ?_
  refine V2.y (i := 3) (Nx2.of (Z := Cls w [g] []) [] (by kernel_rfl) rfl (Zc.on (fun _ hw => hw.sel [] (by decide) rfl) (Zc.fin (fun _ hw => hw)))) rfl rfl rfl (Y.addN (p := a) (r := 1) rfl rfl (by omega)) ?_
  refine V2.y (i := 4) (Nx2.of (Z := Cls w [g] [.sl (rv g (l.length + 1) cap) 42 1 ((l.map row) ++ ex)]) [8] (by kernel_rfl) rfl (Zc.at1 (fun _ hw => hw))) rfl rfl rfl (Y.sliceLC (lo := a + 1) Try.underlying44 sz42 rfl rfl (by first | omega | (simp only [List.length_drop, List.length_take, List.length_append, List.length_map, List.length_replicate, List.length_singleton, *] <;> omega))) ?_
  refine V2.y (i := 5) (Nx2.of (Z := Cls w [g] []) [] (by kernel_rfl) rfl (Zc.on (fun _ hw => hw.sel [] (by decide) rfl) (Zc.fin (fun _ hw => hw)))) rfl rfl rfl (Y.move rfl) ?_
  refine V2.y (i := 6) (Nx2.of (Z := Cls w [g] []) [] (by kernel_rfl) rfl (Zc.on (fun _ hw => hw.sel [] (by decide) rfl) (Zc.fin (fun _ hw => hw)))) rfl rfl rfl (Y.move rfl) ?_
  refine V2.y (i := 7) (Nx2.of (Z := Cls w [g] [.sl (rv g (l.length + 1) cap) 42 1 ((l.map row) ++ ex)]) [8] (by kernel_rfl) rfl (Zc.at1 (fun _ hw => hw))) rfl rfl rfl (Y.sliceLC (lo := a) Try.underlying44 sz42 rfl rfl (by first | omega | (simp only [List.length_drop, List.length_take, List.length_append, List.length_map, List.length_replicate, List.length_singleton, *] <;> omega))) ?_
  refine V2.eff (i := 8) (by kernel_rfl) rfl ?_
  refine L.copyAt (i := 0) (a := a + 1) (N := l.length + 1) (cap := cap) (more := (((l.map row) ++ ex).drop a)) (q := (l.length - a)) rfl Try.underlying44 eL42 rfl rfl rfl (fun w hw => At.sliced (N := (l.length + 1)) (As.at_ (hw.get (i := 0) rfl)) (by first | omega | (simp only [List.length_drop, List.length_take, List.length_append, List.length_map, List.length_replicate, List.length_singleton, *] <;> omega))) (by first | omega | (simp only [List.length_drop, List.length_take, List.length_append, List.length_map, List.length_replicate, List.length_singleton, *] <;> omega)) (by first | omega | (simp only [List.length_drop, List.length_take, List.length_append, List.length_map, List.length_replicate, List.length_singleton, *] <;> omega)) (by first | omega | (simp only [List.length_drop, List.length_take, List.length_append, List.length_map, List.length_replicate, List.length_singleton, *] <;> omega)) (by intro r hr; exact plainL r (copied (by rw [List.length_map]; omega) (by rw [List.length_map]) hr)) (fun v3 => ?_)
  refine L.nil (E.toV2 (stC [] [] (Cls w [g] [])) 8 (by kernel_rfl) (Sc.past rfl (Sc.stayD (fun _ hw => hw))) (Sc.atD (fun _ hw => hw.sel [] (by decide) rfl)) ?_)
  refine V2.done (by kernel_rfl) ?_
  refine E.thenN (W.seq (W.region (L.y rfl (Y.move rfl) ?_)))
  refine L.y rfl (Y.move rfl) ?_
  refine L.y rfl (Y.sliceLC (lo := a) Try.underlying44 sz42 rfl rfl (by first | omega | (simp only [List.length_drop, List.length_take, List.length_append, List.length_map, List.length_replicate, List.length_singleton, *] <;> omega))) ?_
  refine L.y rfl (Y.move rfl) ?_
  refine L.copyAt (i := 0) (a := a) (N := l.length + 1) (cap := cap) (more := ([x].map row)) (q := 1) rfl Try.underlying44 eL42 rfl rfl rfl (fun w hw => litAt.cls hw hub) (by first | omega | (simp only [List.length_drop, List.length_take, List.length_append, List.length_map, List.length_replicate, List.length_singleton, *] <;> omega)) (by first | omega | (simp only [List.length_drop, List.length_take, List.length_append, List.length_map, List.length_replicate, List.length_singleton, *] <;> omega)) (by first | omega | (simp only [List.length_drop, List.length_take, List.length_append, List.length_map, List.length_replicate, List.length_singleton, *] <;> omega)) (litPlainT) (fun v3 => ?_)
  refine L.nil (E.thenN (W.seq (W.region (L.y rfl (Y.move rfl) ?_))))
  refine L.y rfl (Y.assign rfl) ?_
  refine L.nil (E.thenN (W.ret (E.thenR (E.ret1 rfl rfl (fun w1 hw => ?_)))))
  exact ⟨_, rfl, by have hlm : (l.map row).length = l.length := List.length_map ..; rw [← hlm] at hw hex; rw [ins_rows2 (by rw [hlm]; omega) (by simp) hex] at hw; simpa using hw⟩
end Go.Proofs.Ytdebhhjbgbkbjaa.rows30
