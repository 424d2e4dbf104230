/-
  Walks, printed by a program of mine.
  Conditions: none.
-/
import Derived.Test.YtjbajaofdgalfaaScM
import Derived.Test.YtjbajaofdgalfaaChecked
import Derived.KernelRfl
import Derived.Test.YtjbajaofdgalfaaSh
namespace Go.Proofs.Ytjbajaofdgalfaa
open Go.S
set_option linter.unusedVariables false
set_option linter.unusedSimpArgs false
theorem mixed : Try.prog.follows .mixedOrders = true := by kernel_rfl
theorem ag3 : aggB Try.prog 3 false = true := by kernel_rfl
theorem ag4 : aggB Try.prog 4 false = true := by kernel_rfl
theorem ag9 : aggB Try.prog 9 false = true := by kernel_rfl
theorem ag30 : aggB Try.prog 30 false = true := by kernel_rfl
theorem ag32 : aggB Try.prog 32 true = true := by kernel_rfl
theorem ag35 : aggB Try.prog 35 false = true := by kernel_rfl
theorem ag36 : aggB Try.prog 36 false = true := by kernel_rfl
theorem ag165 : aggB Try.prog 165 false = true := by kernel_rfl
theorem ag312 : aggB Try.prog 312 true = true := by kernel_rfl
theorem el3 : elemB Try.prog 3 1 8 = true := by kernel_rfl
theorem el9 : elemB Try.prog 9 1 16 = true := by kernel_rfl
theorem el312 : elemB Try.prog 312 2 24 = true := by kernel_rfl
theorem en15 : entB Try.prog 15 = true := by kernel_rfl
theorem en16 : entB Try.prog 16 = true := by kernel_rfl
theorem en17 : entB Try.prog 17 = true := by kernel_rfl
theorem en18 : entB Try.prog 18 = true := by kernel_rfl
theorem en19 : entB Try.prog 19 = true := by kernel_rfl
theorem en20 : entB Try.prog 20 = true := by kernel_rfl
theorem en97 : entB Try.prog 97 = true := by kernel_rfl
theorem en98 : entB Try.prog 98 = true := by kernel_rfl
theorem en99 : entB Try.prog 99 = true := by kernel_rfl
theorem en100 : entB Try.prog 100 = true := by kernel_rfl
theorem en101 : entB Try.prog 101 = true := by kernel_rfl
theorem en102 : entB Try.prog 102 = true := by kernel_rfl
theorem en103 : entB Try.prog 103 = true := by kernel_rfl
theorem en104 : entB Try.prog 104 = true := by kernel_rfl
theorem en105 : entB Try.prog 105 = true := by kernel_rfl
theorem en106 : entB Try.prog 106 = true := by kernel_rfl
theorem en230 : entB Try.prog 230 = true := by kernel_rfl
theorem en231 : entB Try.prog 231 = true := by kernel_rfl
theorem fd32_0 : fieldB Try.prog 32 0 0 = true := by kernel_rfl
theorem fd32_1 : fieldB Try.prog 32 1 1 = true := by kernel_rfl
theorem fd32_2 : fieldB Try.prog 32 2 2 = true := by kernel_rfl
theorem fd32_3 : fieldB Try.prog 32 3 3 = true := by kernel_rfl
theorem fd38_0 : fieldB Try.prog 38 0 0 = true := by kernel_rfl
theorem fd38_1 : fieldB Try.prog 38 1 1 = true := by kernel_rfl
theorem fd38_2 : fieldB Try.prog 38 2 2 = true := by kernel_rfl
theorem fd38_3 : fieldB Try.prog 38 3 3 = true := by kernel_rfl
theorem fd38_4 : fieldB Try.prog 38 4 4 = true := by kernel_rfl
theorem fd167_0 : fieldB Try.prog 167 0 0 = true := by kernel_rfl
theorem fd167_1 : fieldB Try.prog 167 1 1 = true := by kernel_rfl
theorem fd167_2 : fieldB Try.prog 167 2 2 = true := by kernel_rfl
theorem fd167_3 : fieldB Try.prog 167 3 3 = true := by kernel_rfl
theorem fd312_0 : fieldB Try.prog 312 0 0 = true := by kernel_rfl
theorem fd312_1 : fieldB Try.prog 312 1 1 = true := by kernel_rfl
theorem sz3 : szB Try.prog 3 1 = true := by kernel_rfl
theorem sz4 : szB Try.prog 4 1 = true := by kernel_rfl
theorem sz9 : szB Try.prog 9 1 = true := by kernel_rfl
theorem sz32 : szB Try.prog 32 4 = true := by kernel_rfl
theorem sz35 : szB Try.prog 35 1 = true := by kernel_rfl
theorem sz36 : szB Try.prog 36 1 = true := by kernel_rfl
theorem sz165 : szB Try.prog 165 1 = true := by kernel_rfl
theorem sz312 : szB Try.prog 312 2 = true := by kernel_rfl
theorem ze32 : zeroB Try.prog 32 = some [.int .i64 0, .int .i64 0, .string ⟨#[]⟩, .slice none 0 0] := by kernel_rfl
theorem ze312 : zeroB Try.prog 312 = some [.int .i64 0, .string ⟨#[]⟩] := by kernel_rfl
theorem plain_Twrite (l : List Twrite) : Plain (l.map Twrite.row) := by
  intro r hr u hu
  obtain ⟨x, _, rfl⟩ := List.mem_map.1 hr
  simp only [Twrite.row, List.mem_cons, List.not_mem_nil, or_false] at hu
  rcases hu with rfl | rfl <;> rfl
set_option maxRecDepth 100000 in
set_option maxHeartbeats 8000000 in
theorem w98_quirref_blank (a0 : Int) (w : World) (r : (List UInt8)) (h : m98_quirref_blank a0 = some r) : Does Try.prog 98 [.int .i64 a0] w fun u m => u = st r ∧ m = [] := by
  rw [m98_quirref_blank] at h
  refine body (n := 5) Try.func98 rfl rfl rfl (Cls.refl w) ?_
  refine W.seq (W.region (L.y rfl (Y.assign rfl) ?_))
  refine L.nil (E.thenN (W.seq (W.region (L.y rfl (Y.move rfl) ?_))))
  obtain ⟨s1, e2, h⟩ := bind1S h
  refine L.y rfl (Y.does en97 rfl (fun w' hw => (wRepeat ([0]) a0 w' _ e2).mono (fun _ _ h => h.1))) ?_
  refine L.y rfl (Y.assign rfl) ?_
  refine L.nil (E.thenN (W.ret (E.ret1 rfl rfl (fun w1 hw => ?_))))
  obtain rfl := Option.some.inj h
  exact ⟨_, _, rfl, ⟨rfl, rfl⟩, hw⟩
set_option maxRecDepth 100000 in
set_option maxHeartbeats 8000000 in
theorem w231_slices_Clone_string (a0 : (List (List UInt8))) (u0 : Value) (w : World) (r : (List (List UInt8))) (h : m231_slices_Clone_string a0 = some r) (hA0 : At w u0 1 (a0.map SR)) : Does Try.prog 231 [u0] w fun u m => ∃ v0, u = v0 ∧ m = [.sl v0 9 1 (r.map SR)] := by
  rw [m231_slices_Clone_string] at h
  rcases hA0.shape with ⟨rfl, hn⟩ | ⟨ad, cap, rfl, hl, hm⟩
  ·
   obtain rfl : a0 = [] := by simpa using hn
   replace h : some ([] : List (List UInt8)) = some r := by simpa [app] using h
   refine body (n := 8) Try.func231 rfl rfl rfl (Cls.refl w) ?_
   refine W.seq (W.region (L.y rfl (Y.assign rfl) ?_))
   refine L.nil (E.thenN (W.seq (W.seq (W.region (L.y rfl (Y.move rfl) ?_)))))
   refine L.y rfl (Y.eqlNil Try.underlying35 rfl rfl) ?_
   refine L.nil (E.thenN (W.condT rfl ?_))
   refine W.seq (W.region (L.y rfl (Y.assign rfl) ?_))
   refine L.nil (E.thenN (W.ret (E.thenR (E.ret1 rfl rfl (fun w1 hw => ?_)))))
   obtain rfl := Option.some.inj h
   exact ⟨_, _, rfl, ⟨_, rfl, rfl⟩, (hw.nilSl 9 1)⟩
  ·
   refine body (n := 8) Try.func231 rfl rfl rfl (Cls.refl w) ?_
   refine W.seq (W.region (L.y rfl (Y.assign rfl) ?_))
   refine L.nil (E.thenN (W.seq (W.seq (W.region (L.y rfl (Y.move rfl) ?_)))))
   refine L.y rfl (Y.eqlNil Try.underlying35 rfl rfl) ?_
   refine L.nil (E.thenN (W.condF rfl ?_))
   refine W.skip (E.thenN (W.seq (W.region (L.lit0 rfl Try.underlying35 el9 ?_))))
   intro b1
   refine L.y rfl (Y.move rfl) ?_
   refine L.appM (i := 0) (g := SR) (l := []) (more := a0) h rfl Try.underlying35 el9 rfl rfl rfl (fun w' hw => hA0.cls0 hw) (plain_SR _) rfl ?_
   intro v2 l3 el3 h
   refine L.y rfl (Y.assign rfl) ?_
   refine L.nil (E.thenN (W.ret (E.ret1 rfl rfl (fun w1 hw => ?_))))
   obtain rfl := Option.some.inj h
   exact ⟨_, _, rfl, ⟨_, rfl, rfl⟩, hw⟩
end Go.Proofs.Ytjbajaofdgalfaa
