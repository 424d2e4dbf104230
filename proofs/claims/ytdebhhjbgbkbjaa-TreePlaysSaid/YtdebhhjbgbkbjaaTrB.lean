/-
  Package tree: what a node hands over, in order.
  Conditions: none.
-/
import Derived.Test.YtdebhhjbgbkbjaaTrW1
import Derived.Test.YtdebhhjbgbkbjaaRn
namespace Go.Proofs.Ytdebhhjbgbkbjaa
open Go.S
set_option linter.unusedVariables false
set_option linter.unusedSimpArgs false
theorem en22 : entB Try.prog 22 = true := by kernel_rfl
theorem L.andp {P : Program} {ops : Array Oper} {Q : Exit → Act → World → Prop} {n : Nat} {C : World → Prop} {l : List Oper} {fs : Fr} {p : Prop} (h : p → L P ops Q n C l fs) : L P ops Q n (fun w => p ∧ C w) l fs := fun a w hs hc => h hc.1 a w hs hc.2
/-- What the walk through a node must know: where the things lie, and that reading them keeps what is known. -/
structure Hd (g : Nat → Nat) (q : Nat → List Value) (A : List Tnode) (l : Nat) (J : List (Int × List UInt8) → World → Prop) : Prop where
  ins : ∀ rest W, J rest W → Cls W ([ar46 g q A []].flatMap As.foot) [ar46 g q A []] W
  keep : ∀ rest W W', J rest W → Cls W ([ar46 g q A []].flatMap As.foot) [ar46 g q A []] W' → J rest W'
  ys : ∀ x rest W, J (x :: rest) W → YieldAt Fence.wide 7 Try.prog l #[.int .i64 x.1, st x.2] W fun e W' => e = .returned (.bool true) ∧ J rest W'
variable {g : Nat → Nat} {q : Nat → List Value} {A : List Tnode} {l : Nat} {J : List (Int × List UInt8) → World → Prop} {a0 : Int} {u : Tnode}
theorem thingAt {W : World} (h : Cls W ([ar46 g q A []].flatMap As.foot) [ar46 g q A []] W) (hi : idx A a0 = some u) : ∀ x ∈ thg (Tnode.rowA g) (Tnode.subA g) 46 (g a0.toNat) (q a0.toNat) u, x.holds W := by
  have h1 : ∀ x ∈ hol [] (zT (Tnode.rowA g) (Tnode.subA g) 46 g q A), x.holds W := h.get (i := 0) rfl
  rw [hol_nil] at h1
  exact h1 _ (List.mem_of_getElem? (zT_get g q A _ _ (idx_some hi).2.2))
theorem Hd.cell (H : Hd g q A l J) (hi : idx A a0 = some u) {rest : List (Int × List UInt8)} {W : World} (hw : J rest W) {j : Nat} {v : Value} (hv : [gv (q a0.toNat) 0, gv (q a0.toNat) 1, gv (q a0.toNat) 2][j]? = some v) : W.cell? ⟨g a0.toNat, j, none⟩ = some v := by
  have h1 : W.heap[g a0.toNat]? = _ := thingAt (H.ins _ _ hw) hi _ List.mem_cons_self
  simp only [World.cell?, h1]
  simpa [Tnode.rowA] using hv
theorem Hd.keys (H : Hd g q A l J) (hi : idx A a0 = some u) {rest : List (Int × List UInt8)} {W : World} (hw : J rest W) : At W (gv (q a0.toNat) 0) 1 (u.keys_.map I) := As.at_ (e := 3) (thingAt (H.ins _ _ hw) hi _ (by simp [thg, Tnode.subA]))
theorem Hd.texts (H : Hd g q A l J) (hi : idx A a0 = some u) {rest : List (Int × List UInt8)} {W : World} (hw : J rest W) : At W (gv (q a0.toNat) 1) 1 (u.texts_.map SR) := As.at_ (e := 9) (thingAt (H.ins _ _ hw) hi _ (by simp [thg, Tnode.subA]))
theorem Hd.kids (H : Hd g q A l J) (hi : idx A a0 = some u) {rest : List (Int × List UInt8)} {W : World} (hw : J rest W) : At W (gv (q a0.toNat) 2) 1 (u.kids_.map (PR g)) := As.at_ (e := 42) (thingAt (H.ins _ _ hw) hi _ (by simp [thg, Tnode.subA]))
theorem Hd.drew (H : Hd g q A l J) {rest : List (Int × List UInt8)} {W : World} (hw : J rest W) : J rest { W with drawn := W.drawn + 1 } := H.keep _ _ _ hw (H.ins _ _ hw).drew
set_option maxRecDepth 100000 in
set_option maxHeartbeats 8000000 in
theorem wEach (n : Nat) : ∀ (a0 a1 : Int) (A : List Tnode) (xs : List (Int × List UInt8)), mEach n a0 a1 A = some xs → ∀ (g : Nat → Nat) (q : Nat → List Value) (l : Nat) (J : List (Int × List UInt8) → World → Prop) (H : Hd g q A l J) (tl : List (Int × List UInt8)) (W : World), J (xs ++ tl) W →
    Calls Try.prog 22 [VP g a0, .int .i64 a1, .func (.yield l) #[] #[]].toArray W fun e W' => e = .returned (.bool true) ∧ J tl W' := by
  induction n with
  | zero => intro a0 a1 A xs h; cases h
  | succ n ih =>
  intro a0 a1 A xs h g q l J H tl W hJ
  rw [mEach] at h
  obtain ⟨u, hu, h⟩ := bind1S h
  obtain ⟨k, kb, hf, h⟩ := bind2S h
  refine (callsIn_wide (n := 8)).1 (bodyG (n := 71) (vs := [VP g a0, .int .i64 a1, .func (.yield l) #[] #[]]) (R := fun e W' => e = .returned (.bool true) ∧ J tl W') (C := J (xs ++ tl)) Try.func22 rfl rfl rfl hJ (fun w h => by cases h.1) ?_)
  refine G.seq (G.region .flat rfl ?_)
  refine L.y rfl (Y.assign rfl) ?_
  refine L.nil (E.thenG (G.seq (G.region .flat (by kernel_rfl) ?_)))
  refine L.y rfl (Y.move rfl) ?_
  refine L.y rfl (Y.move rfl) ?_
  refine L.call (R := fun v W' => v = .tuple #[.int .i64 k, .bool kb] ∧ J (xs ++ tl) W') rfl en15 rfl (fun w hw => ?_) (fun v => L.andp fun hv => ?_)
  · refine Calls.mono (w15_tree_node_find a0 a1 A g q w (k, kb) hf _ (H.ins _ w hw)) ?_
    rintro e w' ⟨v, m, rfl, ⟨hv, rfl⟩, hc⟩
    exact ⟨v, rfl, hv, H.keep _ w w' hw hc⟩
  subst hv
  refine L.y rfl (Y.move rfl) ?_
  refine L.y rfl (Y.extract rfl rfl) ?_
  refine L.y rfl (Y.extract rfl rfl) ?_
  refine L.y rfl (Y.assign rfl) ?_
  refine L.y rfl (Y.assign rfl) ?_
  refine L.nil (E.thenG (G.seq (G.seq (G.region .flat rfl ?_))))
  refine L.y rfl (Y.move rfl) ?_
  refine L.y rfl (Y.assign rfl) ?_
  refine L.nil (E.thenG (G.block ?_))
  refine G.loopJ (fun mm gs D => ∃ i s, eachGo (mEach n) a1 A u mm i = some s ∧ gs = [(0, VP g a0), (1, .int .i64 a1), (2, .func (.yield l) #[] #[]), (9, .int .i64 i)] ∧ D = J (s ++ tl)) (m0 := big) ⟨k, xs, h, rfl, rfl⟩ ⟨rfl, rfl, rfl, rfl, trivial⟩ (fun W' hw => hw) ?_
  rintro mm _ _ ⟨i, s, hs, rfl, rfl⟩
  rcases mm with _ | mm
  · cases hs
  rw [eachGo] at hs
  refine G.seq (G.seq (G.region .flat rfl ?_))
  refine L.y rfl (Y.move rfl) ?_
  refine L.y rfl (Y.move rfl) ?_
  refine L.y rfl (Y.apNil rfl hu) ?_
  refine L.y rfl (Y.fieldP fd46_0 rfl) ?_
  refine L.y rfl (Y.load1 ag25 rfl (fun W' hw => H.cell hu hw rfl)) ?_
  refine L.y rfl (Y.lenM (g := I) (l := u.keys_) Try.underlying25 rfl (fun W' hw => H.keys hu hw)) ?_
  by_cases c : i ≤ (u.keys_.length : Int)
  · rw [if_pos c] at hs
    obtain ⟨s1, hs1, hs⟩ := bind1S hs
    obtain ⟨s2, hs2, hs⟩ := bind1S hs
    obtain ⟨j, hj, hs⟩ := bind1S hs
    obtain ⟨s3, hs3, hs⟩ := bind1S hs
    obtain rfl := Option.some.inj hs
    rw [List.append_assoc]
    have e : decide (i ≤ (u.keys_.length : Int)) = true := decide_eq_true c
    refine L.y (v := .bool true) rfl (by rw [← e]; exact Y.leq rfl rfl) ?_
    refine L.nil (E.thenG (G.condT rfl (G.skip (E.thenG (G.seq (G.block ?_))))))
    refine G.seqJ (fun gs D => gs = [(0, VP g a0), (1, .int .i64 a1), (2, .func (.yield l) #[] #[]), (9, .int .i64 i)] ∧ D = J ((s2 ++ s3) ++ tl)) ?_ ?_
    · refine G.seq (G.region .flat (by kernel_rfl) ?_)
      refine L.y rfl (Y.move rfl) ?_
      refine L.y rfl (Y.apNil rfl hu) ?_
      refine L.y rfl (Y.fieldP fd46_2 rfl) ?_
      refine L.y rfl (Y.load1 ag44 rfl (fun W' hw => H.cell hu hw rfl)) ?_
      refine L.y rfl (Y.lenM (g := PR g) (l := u.kids_) Try.underlying44 rfl (fun W' hw => H.kids hu hw)) ?_
      by_cases c2 : (0 : Int) < (u.kids_.length : Int)
      · rw [if_pos c2] at hs1
        obtain ⟨cc, hcc, hs1⟩ := bind1S hs1
        have e2 : decide ((0 : Int) < (u.kids_.length : Int)) = true := decide_eq_true c2
        refine L.y (v := .bool true) rfl (by rw [← e2]; exact Y.gtr rfl rfl) ?_
        refine L.y rfl (Y.move rfl) ?_
        refine L.take rfl (L.y rfl (Y.move rfl) ?_)
        refine L.take rfl (L.y rfl (Y.apNil rfl hu) ?_)
        refine L.take rfl (L.y rfl (Y.fieldP fd46_2 rfl) ?_)
        refine L.take rfl (L.y rfl (Y.load1 ag44 rfl (fun W' hw => H.cell hu hw rfl)) ?_)
        refine L.take rfl (L.y rfl (Y.move rfl) ?_)
        refine L.take rfl (L.y rfl (Y.indexM (g := PR g) (l := u.kids_) Try.underlying44 sz42 rfl rfl (fun W' hw => H.kids hu hw) cc hcc) ?_)
        refine L.take rfl (L.y rfl (Y.loadE1 (u := VP g cc) ag42 rfl (fun W' hw => H.kids hu hw) (idx_map hcc)) ?_)
        refine L.take rfl (L.y rfl (Y.move rfl) ?_)
        refine L.take rfl (L.y rfl (Y.move rfl) ?_)
        refine L.take rfl (L.call (R := fun v W' => v = .bool true ∧ J ((s2 ++ s3) ++ tl) W') rfl en22 rfl (fun w hw => ?_) (fun v => L.andp fun hv => ?_))
        · refine Calls.mono (ih cc a1 A s1 hs1 g q l J H ((s2 ++ s3) ++ tl) w hw) ?_
          rintro e w' ⟨rfl, hc⟩
          exact ⟨_, rfl, rfl, hc⟩
        subst hv
        refine L.take rfl (L.y rfl (Y.not rfl) ?_)
        refine L.y rfl (Y.pickT rfl rfl) ?_
        exact L.nil (E.thenG (G.condF rfl (G.skip (E.joinJ ⟨rfl, rfl⟩ ⟨rfl, rfl, rfl, rfl, trivial⟩ (fun _ hw => hw)))))
      · rw [if_neg c2] at hs1
        obtain rfl := Option.some.inj hs1
        have e2 : decide ((0 : Int) < (u.kids_.length : Int)) = false := decide_eq_false c2
        refine L.y (v := .bool false) rfl (by rw [← e2]; exact Y.gtr rfl rfl) ?_
        refine L.y rfl (Y.move rfl) ?_
        refine L.pass rfl rfl (by nofun) ?_
        refine L.pass rfl rfl (by nofun) ?_
        refine L.pass rfl rfl (by nofun) ?_
        refine L.pass rfl rfl (by nofun) ?_
        refine L.pass rfl rfl (by nofun) ?_
        refine L.pass rfl rfl (by nofun) ?_
        refine L.pass rfl rfl (by nofun) ?_
        refine L.pass rfl rfl (by nofun) ?_
        refine L.pass rfl rfl (by nofun) ?_
        refine L.pass rfl rfl (by nofun) ?_
        refine L.pass rfl rfl (by nofun) ?_
        refine L.y rfl (Y.pickF rfl rfl) ?_
        exact L.nil (E.thenG (G.condF rfl (G.skip (E.joinJ ⟨rfl, rfl⟩ ⟨rfl, rfl, rfl, rfl, trivial⟩ (fun _ hw => hw)))))
    · rintro _ _ ⟨rfl, rfl⟩
      refine G.seq (G.drawnY 23 rfl rfl (by kernel_rfl) mixed (fun w hw => H.drew hw) ?_)
      refine VY.st (i := 0) (NxY.of (by kernel_rfl) rfl) rfl rfl rfl (Y.move rfl) ?_
      refine VY.st (i := 1) (NxY.of (by kernel_rfl) rfl) rfl rfl rfl (Y.move rfl) ?_
      refine VY.ap (i := 2) (NxY.of (by kernel_rfl) rfl) rfl rfl rfl hu ?_
      refine VY.st (i := 3) (NxY.of (by kernel_rfl) rfl) rfl rfl rfl (Y.fieldP fd46_0 rfl) ?_
      refine VY.st (i := 4) (NxY.of (by kernel_rfl) rfl) rfl rfl rfl (Y.load1 ag25 rfl (fun W' hw => H.cell hu hw rfl)) ?_
      refine VY.st (i := 5) (NxY.of (by kernel_rfl) rfl) rfl rfl rfl (Y.lenM (g := I) (l := u.keys_) Try.underlying25 rfl (fun W' hw => H.keys hu hw)) ?_
      by_cases c3 : i < (u.keys_.length : Int)
      · rw [if_pos c3] at hs2
        obtain ⟨kk, hkk, hs2⟩ := bind1S hs2
        obtain ⟨tt, htt, hs2⟩ := bind1S hs2
        obtain rfl := Option.some.inj hs2
        have e3 : decide (i < (u.keys_.length : Int)) = true := decide_eq_true c3
        refine VY.st (i := 6) (v := .bool true) (NxY.of (by kernel_rfl) rfl) rfl rfl rfl (by rw [← e3]; exact Y.lss rfl rfl) ?_
        refine VY.st (i := 7) (NxY.of (by kernel_rfl) rfl) rfl rfl rfl (Y.move rfl) ?_
        refine VY.st (i := 8) (NxY.of (by kernel_rfl) rfl) rfl rfl rfl (Y.move rfl) ?_
        refine VY.st (i := 9) (NxY.of (by kernel_rfl) rfl) rfl rfl rfl (Y.move rfl) ?_
        refine VY.ap (i := 10) (NxY.of (by kernel_rfl) rfl) rfl rfl rfl hu ?_
        refine VY.st (i := 11) (NxY.of (by kernel_rfl) rfl) rfl rfl rfl (Y.fieldP fd46_0 rfl) ?_
        refine VY.st (i := 12) (NxY.of (by kernel_rfl) rfl) rfl rfl rfl (Y.load1 ag25 rfl (fun W' hw => H.cell hu hw rfl)) ?_
        refine VY.st (i := 13) (NxY.of (by kernel_rfl) rfl) rfl rfl rfl (Y.move rfl) ?_
        refine VY.st (i := 14) (NxY.of (by kernel_rfl) rfl) rfl rfl rfl (Y.indexM (g := I) (l := u.keys_) Try.underlying25 sz3 rfl rfl (fun W' hw => H.keys hu hw) kk hkk) ?_
        refine VY.st (i := 15) (NxY.of (by kernel_rfl) rfl) rfl rfl rfl (Y.loadE1 (u := .int .i64 kk) ag3 rfl (fun W' hw => H.keys hu hw) (idx_map hkk)) ?_
        refine VY.st (i := 16) (NxY.of (by kernel_rfl) rfl) rfl rfl rfl (Y.move rfl) ?_
        refine VY.ap (i := 17) (NxY.of (by kernel_rfl) rfl) rfl rfl rfl hu ?_
        refine VY.st (i := 18) (NxY.of (by kernel_rfl) rfl) rfl rfl rfl (Y.fieldP fd46_1 rfl) ?_
        refine VY.st (i := 19) (NxY.of (by kernel_rfl) rfl) rfl rfl rfl (Y.load1 ag43 rfl (fun W' hw => H.cell hu hw rfl)) ?_
        refine VY.st (i := 20) (NxY.of (by kernel_rfl) rfl) rfl rfl rfl (Y.move rfl) ?_
        refine VY.st (i := 21) (NxY.of (by kernel_rfl) rfl) rfl rfl rfl (Y.indexM (g := SR) (l := u.texts_) Try.underlying43 sz9 rfl rfl (fun W' hw => H.texts hu hw) tt htt) ?_
        refine VY.st (i := 22) (NxY.of (by kernel_rfl) rfl) rfl rfl rfl (Y.loadE1 (u := st tt) ag9 rfl (fun W' hw => H.texts hu hw) (idx_map htt)) ?_
        refine VY.eff (D := J (s3 ++ tl)) (S := stC [] [] (J (s3 ++ tl))) (by kernel_rfl) rfl rfl rfl rfl rfl (fun W hw => H.ys (kk, tt) _ W hw) (fun W hw => hw) ?_
        refine V2.y (i := 24) (Nx2.of [] (by kernel_rfl) rfl (Zc.fin (fun _ hw => hw))) rfl rfl rfl (Y.not rfl) ?_
        refine V2.y (i := 25) (Nx2.of [] (by kernel_rfl) rfl (Zc.fin (fun _ hw => hw))) rfl rfl rfl (Y.pickT rfl rfl) ?_
        refine V2.done (by kernel_rfl) ?_
        refine E.thenG (G.condF rfl (G.skip (E.blockN (E.thenG (G.region .flat rfl ?_)))))
        refine L.y rfl (Y.move rfl) ?_
        refine L.y rfl (Y.addM rfl rfl j hj) ?_
        refine L.y rfl (Y.assign rfl) ?_
        exact L.nil (E.againJ (m' := mm) ⟨j, s3, hs3, rfl, rfl⟩ (Nat.lt_succ_self _) ⟨rfl, rfl, rfl, rfl, trivial⟩ (fun _ hw => hw))
      · rw [if_neg c3] at hs2
        obtain rfl := Option.some.inj hs2
        have e3 : decide (i < (u.keys_.length : Int)) = false := decide_eq_false c3
        refine VY.st (i := 6) (v := .bool false) (NxY.of (by kernel_rfl) rfl) rfl rfl rfl (by rw [← e3]; exact Y.lss rfl rfl) ?_
        refine VY.st (i := 7) (NxY.of (by kernel_rfl) rfl) rfl rfl rfl (Y.move rfl) ?_
        refine VY.pass (i := 8) (NxY.of (by kernel_rfl) rfl) rfl rfl ?_
        refine VY.pass (i := 9) (NxY.of (by kernel_rfl) rfl) rfl rfl ?_
        refine VY.pass (i := 10) (NxY.of (by kernel_rfl) rfl) rfl rfl ?_
        refine VY.pass (i := 11) (NxY.of (by kernel_rfl) rfl) rfl rfl ?_
        refine VY.pass (i := 12) (NxY.of (by kernel_rfl) rfl) rfl rfl ?_
        refine VY.pass (i := 13) (NxY.of (by kernel_rfl) rfl) rfl rfl ?_
        refine VY.pass (i := 14) (NxY.of (by kernel_rfl) rfl) rfl rfl ?_
        refine VY.pass (i := 15) (NxY.of (by kernel_rfl) rfl) rfl rfl ?_
        refine VY.pass (i := 16) (NxY.of (by kernel_rfl) rfl) rfl rfl ?_
        refine VY.pass (i := 17) (NxY.of (by kernel_rfl) rfl) rfl rfl ?_
        refine VY.pass (i := 18) (NxY.of (by kernel_rfl) rfl) rfl rfl ?_
        refine VY.pass (i := 19) (NxY.of (by kernel_rfl) rfl) rfl rfl ?_
        refine VY.pass (i := 20) (NxY.of (by kernel_rfl) rfl) rfl rfl ?_
        refine VY.pass (i := 21) (NxY.of (by kernel_rfl) rfl) rfl rfl ?_
        refine VY.pass (i := 22) (NxY.of (by kernel_rfl) rfl) rfl rfl ?_
        refine VY.effPass (S := stC [] [] (J (([] ++ s3) ++ tl))) (by kernel_rfl) rfl rfl (fun W hw => hw) ?_
        refine V2.pass (i := 24) (Nx2.of (Z := J (([] ++ s3) ++ tl)) [] (by kernel_rfl) rfl (Zc.fin (fun _ hw => hw))) rfl rfl ?_
        refine V2.y (i := 25) (Nx2.of [] (by kernel_rfl) rfl (Zc.fin (fun _ hw => hw))) rfl rfl rfl (Y.pickF rfl rfl) ?_
        refine V2.done (by kernel_rfl) ?_
        refine E.thenG (G.condF rfl (G.skip (E.blockN (E.thenG (G.region .flat rfl ?_)))))
        refine L.y rfl (Y.move rfl) ?_
        refine L.y rfl (Y.addM rfl rfl j hj) ?_
        refine L.y rfl (Y.assign rfl) ?_
        exact L.nil (E.againJ (m' := mm) ⟨j, s3, hs3, rfl, rfl⟩ (Nat.lt_succ_self _) ⟨rfl, rfl, rfl, rfl, trivial⟩ (fun _ hw => hw))
  · rw [if_neg c] at hs
    have e : decide (i ≤ (u.keys_.length : Int)) = false := decide_eq_false c
    obtain rfl := Option.some.inj hs
    refine L.y (v := .bool false) rfl (by rw [← e]; exact Y.leq rfl rfl) ?_
    refine L.nil (E.thenG (G.condF rfl (G.exit ?_)))
    refine E.thenGX (E.KLX (E.blockX (E.thenG (G.seq (G.region .flat rfl ?_)))))
    refine L.y rfl (Y.assign rfl) ?_
    exact L.nil (E.thenG (G.ret (E.ret1 rfl rfl (fun w1 hw => ⟨rfl, hw⟩))))
theorem sub46 {g : Nat → Nat} (x : Tnode) (v : List Value) : ∀ z ∈ Tnode.subA g x v, fk z := by
  intro z hz
  simp only [Tnode.subA, List.mem_cons, List.not_mem_nil, or_false] at hz
  rcases hz with rfl | rfl | rfl <;> exact fk_cells rfl
theorem sub48 {g : Nat → Nat} (x : TTree) (v : List Value) : ∀ z ∈ TTree.subA g x v, fk z := fun z hz => nomatch hz
theorem ag23 : aggB Try.prog 23 false = true := by kernel_rfl
theorem fd48_0' : fieldB Try.prog 48 0 0 = true := by kernel_rfl
set_option maxRecDepth 100000 in
set_option maxHeartbeats 8000000 in
theorem wFrom {n : Nat} {g46 g48 : Nat → Nat} {q46 q48 : Nat → List Value} {A46 : List Tnode} {A48 : List TTree} {b1 b2 : Nat} {ta fr : Int} {t : TTree} {xs : List (Int × List UInt8)} (hat : idx A48 ta = some t) (h : mEach n t.root_ fr A46 = some xs) :
    HandsI Try.prog 21 [pt b1 0, pt b2 0] (fun x : Int × List UInt8 => .int .i64 x.1) (fun x => st x.2) [ar46 g46 q46 A46 [], ar48 g46 g48 q48 A48 [], .obj b1 [VP g48 ta] 23, .obj b2 [.int .i64 fr] 3] xs := by
  intro l J W hI hK hY hJ
  have H : Hd g46 q46 A46 l J := {
    ins := fun rest W hj => Cls.lend (A := [ar46 g46 q46 A46 []]) (M := [ar48 g46 g48 q48 A48 [], .obj b1 [VP g48 ta] 23, .obj b2 [.int .i64 fr] 3]) (hI rest W hj)
    keep := fun rest W W' hj hc => hK rest W W' hj (Cls.back (A := [ar46 g46 q46 A46 []]) (M := [ar48 g46 g48 q48 A48 [], .obj b1 [VP g48 ta] 23, .obj b2 [.int .i64 fr] 3]) (hI rest W hj) hc)
    ys := hY }
  have c1 : ∀ {rest W}, J rest W → W.cell? ⟨b1, 0, none⟩ = some (VP g48 ta) := fun hj => by
    have h1 : _ = _ := (hI _ _ hj).get (i := 2) rfl
    simp [World.cell?, h1]
  have c2 : ∀ {rest W}, J rest W → W.cell? ⟨b2, 0, none⟩ = some (.int .i64 fr) := fun hj => by
    have h1 : _ = _ := (hI _ _ hj).get (i := 3) rfl
    simp [World.cell?, h1]
  have c3 : ∀ {rest W}, J rest W → W.cell? ⟨g48 ta.toNat, 0, none⟩ = some (VP g46 t.root_) := fun hj => by
    have h1 : ∀ x ∈ hol [] (zT (TTree.rowA g46) (TTree.subA g46) 48 g48 q48 A48), x.holds _ := (hI _ _ hj).get (i := 1) rfl
    rw [hol_nil] at h1
    have h2 := h1 _ (List.mem_of_getElem? (zT_get g48 q48 A48 _ _ (idx_some hat).2.2))
    have h3 : _ = _ := (h2 : ∀ x ∈ thg (TTree.rowA g46) (TTree.subA g46) 48 (g48 ta.toNat) (q48 ta.toNat) t, x.holds _) _ List.mem_cons_self
    simp [World.cell?, h3, TTree.rowA]
  refine (bodyG (n := 11) (vs := [.func (.yield l) #[] #[], pt b1 0, pt b2 0]) (R := fun e W' => (∃ v, e = .returned v) ∧ J [] W') (C := J xs) Try.func21 rfl rfl rfl hJ (fun w h => by obtain ⟨⟨v, h⟩, _⟩ := h; cases h) ?_)
  refine G.drawnE (k := 7) 6 .flat (by kernel_rfl) rfl mixed (fun _ hw => H.drew hw) ?_
  refine VY.st (i := 0) (NxY.of (by kernel_rfl) rfl) rfl rfl rfl (Y.load1 ag23 rfl (fun W' hw => c1 hw)) ?_
  refine VY.ap (i := 1) (NxY.of (by kernel_rfl) rfl) rfl rfl rfl hat ?_
  refine VY.st (i := 2) (NxY.of (by kernel_rfl) rfl) rfl rfl rfl (Y.fieldP fd48_0' rfl) ?_
  refine VY.st (i := 3) (NxY.of (by kernel_rfl) rfl) rfl rfl rfl (Y.load1 ag42 rfl (fun W' hw => c3 hw)) ?_
  refine VY.st (i := 4) (NxY.of (by kernel_rfl) rfl) rfl rfl rfl (Y.load1 ag3 rfl (fun W' hw => c2 hw)) ?_
  refine VY.st (i := 5) (NxY.of (by kernel_rfl) rfl) rfl rfl rfl (Y.move rfl) ?_
  refine VY.effL (S := fun _ _ => True) (by kernel_rfl) rfl ?_
  refine L.call (R := fun v W' => v = .bool true ∧ J [] W') rfl en22 rfl (fun w hw => ?_) (fun v => L.andp fun hv => ?_)
  · refine Calls.mono (wEach n t.root_ fr A46 xs h g46 q46 l J H [] w (by rw [List.append_nil]; exact hw)) ?_
    rintro e w' ⟨rfl, hc⟩
    exact ⟨_, rfl, rfl, hc⟩
  subst hv
  refine L.nil ?_
  refine E.toV2 (fun _ _ => True) 6 (by kernel_rfl) (fun _ _ _ _ => trivial) (fun _ _ => trivial) ?_
  refine V2.done (by kernel_rfl) ?_
  exact E.end0 rfl (fun w1 hw => ⟨⟨_, rfl⟩, hw⟩)
end Go.Proofs.Ytdebhhjbgbkbjaa
