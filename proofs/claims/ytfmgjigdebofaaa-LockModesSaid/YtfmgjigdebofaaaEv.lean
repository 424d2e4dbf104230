/-
  An interpreter for code that runs to its end by itself (no loop's invariant wanted): what it answers the model's own run answers ('Calls').
  Conditions: none; it says nothing where it answers 'none'.
-/
import Derived.WalkKit
import Derived.KernelRfl
namespace Go.Ev

/-- The operations of a region that does not draw, one behind another. -/
def ops (P : Program) (call : FuncId → Array Value → World → Option (Value × World)) (os : Array Oper) : List Nat → Act → World → Option (Act × World)
  | [], a, w => some (a, w)
  | i :: rest, a, w =>
    match os[i]? with
    | none => ops P call os rest a w
    | some o =>
      match Region.wanted o (yielded os a.tmps) with
      | true =>
        match (execOp a.eval o).run P w with
        | .ok (.value v) w' => ops P call os rest (a.put o.dst v) w'
        | .ok .skip w' => ops P call os rest (a.put o.dst undef) w'
        | .ok (.enter f args) w' =>
          match call f args w' with
          | some (v, w'') => ops P call os rest (a.put o.dst v) w''
          | none => none
        | _ => none
      | false => ops P call os rest (a.put o.dst undef) w

def code (P : Program) (call : FuncId → Array Value → World → Option (Value × World)) : Nat → Code → Act → World → Option (Exit × Act × World)
  | 0, _, _, _ => none
  | n + 1, c, a, w =>
    match c with
    | .skip => some (.normal, a, w)
    | .region _ os false =>
      match ops P call os (List.range os.size) a w with
      | some (a', w') => some (.normal, a', w')
      | none => none
    | .seq x y =>
      match code P call n x a w with
      | some (.normal, a', w') => code P call n y a' w'
      | r => r
    | .cond c x y =>
      match a.eval c with
      | .bool true => code P call n x a w
      | .bool false => code P call n y a w
      | _ => none
    | .block id c =>
      match code P call n c a w with
      | some (.exit id', a', w') => match Nat.decEq id' id with
        | isTrue _ => some (.normal, a', w')
        | isFalse _ => some (.exit id', a', w')
      | r => r
    | .loop c =>
      match code P call n c a w with
      | some (.normal, a', w') => code P call n (.loop c) a' w'
      | r => r
    | .exit id => some (.exit id, a, w)
    | .ret => some (.ret, a, w)
    | _ => none

def fn (P : Program) : Nat → FuncId → Array Value → World → Option (Value × World)
  | 0, _, _, _ => none
  | n + 1, f, args, w =>
    match P.funcs[f]? with
    | none => none
    | some fn' =>
      match fn'.body with
      | none => none
      | some c =>
        match code P (fn P n) n c { tmps := args ++ Array.replicate (fn'.ntmps - args.size) undef, defers := [] } w with
        | some (.normal, a', w') | some (.ret, a', w') =>
          match a'.defers with
          | [] => match fn'.results with
            | ⟨[.tmp t]⟩ => some (a'.tmps.getD t undef, w')
            | ⟨[.tmp t, .tmp u]⟩ => some (.tuple #[a'.tmps.getD t undef, a'.tmps.getD u undef], w')
            | ⟨[.tmp t, .tmp u, .tmp x]⟩ => some (.tuple #[a'.tmps.getD t undef, a'.tmps.getD u undef, a'.tmps.getD x undef], w')
            | _ => none
          | _ => none
        | _ => none


/-- What is called answers as told. -/
def Sound (P : Program) (call : FuncId → Array Value → World → Option (Value × World)) : Prop :=
  ∀ f args w v w', call f args w = some (v, w') → Calls P f args w fun e w'' => e = .returned v ∧ w'' = w'

theorem ops_sound {P : Program} {call : FuncId → Array Value → World → Option (Value × World)} (hc : Sound P call) {os : Array Oper} {Q : Exit → Act → World → Prop} :
    ∀ (l : List Nat) (a : Act) (w : World) (a' : Act) (w' : World), ops P call os l a w = some (a', w') → Q .normal a' w' → wpOps P os Q l a w := by
  intro l
  induction l with
  | nil =>
    intro a w a' w' h hQ
    simp only [ops, Option.some.injEq, Prod.mk.injEq] at h
    obtain ⟨rfl, rfl⟩ := h
    exact hQ
  | cons i rest ih =>
    intro a w a' w' h hQ
    simp only [ops] at h
    simp only [wpOps]
    cases ho : os[i]? with
    | none => simp only [ho] at h ⊢; exact ih a w a' w' h hQ
    | some o =>
      simp only [ho] at h ⊢
      cases hw : Region.wanted o (yielded os a.tmps) with
      | false => simp only [hw] at h; simp only [Bool.false_eq_true, if_false]; exact ih _ w a' w' h hQ
      | true =>
        simp only [hw] at h
        simp only [if_true]
        refine .inl ?_
        unfold Oper.wp
        cases hr : (execOp a.eval o).run P w with
        | halt x w1 => simp only [hr] at h; cases h
        | ok x w1 =>
          simp only [hr] at h
          cases x with
          | value v => exact ih _ _ a' w' h hQ
          | skip => exact ih _ _ a' w' h hQ
          | enter f args =>
            simp only at h
            cases hcall : call f args w1 with
            | none => simp only [hcall] at h; cases h
            | some vw =>
              obtain ⟨v, w2⟩ := vw
              simp only [hcall] at h
              refine (hc f args w1 v w2 hcall).mono ?_
              rintro e w3 ⟨rfl, rfl⟩
              exact ih _ _ a' w' h hQ
          | _ => cases h

theorem code_sound {P : Program} {call : FuncId → Array Value → World → Option (Value × World)} (hc : Sound P call) :
    ∀ (n : Nat) (c : Code) (a : Act) (w : World) (e : Exit) (a' : Act) (w' : World) (Q : Exit → Act → World → Prop),
      code P call n c a w = some (e, a', w') → Q e a' w' → c.wp P Q a w ∧ ∀ x, c = .loop x → Code.rounds P x Q n a w := by
  intro n
  induction n with
  | zero => intro c a w e a' w' Q h; cases h
  | succ n ih =>
    intro c a w e a' w' Q h hQ
    by_cases hl : ∃ x, c = .loop x
    · obtain ⟨c, rfl⟩ := hl
      have key : Code.rounds P c Q (n + 1) a w := by
        rw [rounds_succ]
        simp only [code] at h
        cases hx : code P call n c a w with
        | none => simp only [hx] at h; cases h
        | some r =>
          obtain ⟨e1, a1, w1⟩ := r
          simp only [hx] at h
          refine (ih c a w e1 a1 w1 _ hx ?_).1
          cases e1 with
          | normal => exact (ih (.loop c) a1 w1 e a' w' Q h hQ).2 c rfl
          | _ => simp only [Option.some.injEq, Prod.mk.injEq] at h; obtain ⟨rfl, rfl, rfl⟩ := h; exact hQ
      exact ⟨wp_loop_rounds _ key, fun x hx => by cases hx; exact key⟩
    refine ⟨?_, fun x hx => (hl ⟨x, hx⟩).elim⟩
    cases c with
    | loop x => exact (hl ⟨x, rfl⟩).elim
    | skip =>
      simp only [code, Option.some.injEq, Prod.mk.injEq] at h
      obtain ⟨rfl, rfl, rfl⟩ := h
      exact wp_skip hQ
    | region id os draw =>
      cases draw with
      | true => cases h
      | false =>
        simp only [code] at h
        cases ho : ops P call os (List.range os.size) a w with
        | none => simp only [ho] at h; cases h
        | some aw =>
          obtain ⟨a1, w1⟩ := aw
          simp only [ho, Option.some.injEq, Prod.mk.injEq] at h
          obtain ⟨rfl, rfl, rfl⟩ := h
          exact wp_region (ops_sound hc _ _ _ _ _ ho hQ)
    | seq x y =>
      simp only [code] at h
      refine wp_seq ?_
      cases hx : code P call n x a w with
      | none => simp only [hx] at h; cases h
      | some r =>
        obtain ⟨e1, a1, w1⟩ := r
        simp only [hx] at h
        refine (ih x a w e1 a1 w1 _ hx ?_).1
        cases e1 with
        | normal => exact (ih y a1 w1 e a' w' Q h hQ).1
        | _ => simp only [Option.some.injEq, Prod.mk.injEq] at h; obtain ⟨rfl, rfl, rfl⟩ := h; exact hQ
    | cond cnd x y =>
      simp only [code] at h
      cases hv : a.eval cnd with
      | bool b =>
        simp only [hv] at h
        cases b with
        | true => exact wp_cond_true hv (ih x a w e a' w' Q h hQ).1
        | false => exact wp_cond_false hv (ih y a w e a' w' Q h hQ).1
      | _ => simp only [hv] at h; cases h
    | block id c =>
      simp only [code] at h
      refine wp_block ?_
      cases hx : code P call n c a w with
      | none => simp only [hx] at h; cases h
      | some r =>
        obtain ⟨e1, a1, w1⟩ := r
        simp only [hx] at h
        refine (ih c a w e1 a1 w1 _ hx ?_).1
        cases e1 with
        | exit id' =>
          simp only at h
          cases hd : Nat.decEq id' id with
          | isTrue heq =>
            simp only [hd, Option.some.injEq, Prod.mk.injEq] at h
            obtain ⟨rfl, rfl, rfl⟩ := h
            simp only [Exit.inBlock, heq, if_true]; exact hQ
          | isFalse hne =>
            simp only [hd, Option.some.injEq, Prod.mk.injEq] at h
            obtain ⟨rfl, rfl, rfl⟩ := h
            simp only [Exit.inBlock, hne, if_false]; exact hQ
        | _ => simp only [Option.some.injEq, Prod.mk.injEq] at h; obtain ⟨rfl, rfl, rfl⟩ := h; exact hQ
    | exit id =>
      simp only [code, Option.some.injEq, Prod.mk.injEq] at h
      obtain ⟨rfl, rfl, rfl⟩ := h
      exact wp_exit hQ
    | ret =>
      simp only [code, Option.some.injEq, Prod.mk.injEq] at h
      obtain ⟨rfl, rfl, rfl⟩ := h
      exact wp_ret hQ
    | _ => cases h

theorem fn_sound (P : Program) : ∀ n, Sound P (fn P n) := by
  intro n
  induction n with
  | zero => intro f args w v w' h; cases h
  | succ n ih =>
    intro f args w v w' h
    simp only [fn] at h
    cases hf : P.funcs[f]? with
    | none => simp only [hf] at h; cases h
    | some fn' =>
      simp only [hf] at h
      cases hb : fn'.body with
      | none => simp only [hb] at h; cases h
      | some c =>
        simp only [hb] at h
        cases hx : code P (fn P n) n c { tmps := args ++ Array.replicate (fn'.ntmps - args.size) undef, defers := [] } w with
        | none => simp only [hx] at h; cases h
        | some r =>
          obtain ⟨e1, a1, w1⟩ := r
          simp only [hx] at h
          refine calls_of_wp hf hb (code_sound ih _ _ _ _ _ _ _ _ hx ?_).1
          cases e1 with
          | normal | ret =>
            simp only at h
            cases hd : a1.defers with
            | cons => simp only [hd] at h; cases h
            | nil =>
              simp only [hd] at h
              split at h
              · rename_i t hr
                simp only [Option.some.injEq, Prod.mk.injEq] at h
                obtain ⟨rfl, rfl⟩ := h
                exact ⟨hd, _, results_tmp hr _ _ _, rfl, rfl⟩
              · rename_i t u hr
                simp only [Option.some.injEq, Prod.mk.injEq] at h
                obtain ⟨rfl, rfl⟩ := h
                exact ⟨hd, _, results_tmp2 hr _ _ _, rfl, rfl⟩
              · rename_i t u x hr
                simp only [Option.some.injEq, Prod.mk.injEq] at h
                obtain ⟨rfl, rfl⟩ := h
                exact ⟨hd, _, results_tmp3 hr _ _ _, rfl, rfl⟩
              · cases h
          | _ => cases h

/-- A call whose run answers. -/
theorem calls {P : Program} (n : Nat) {f : FuncId} {args : Array Value} {w w' : World} {v : Value} (h : fn P n f args w = some (v, w')) :
    Calls P f args w fun e w'' => e = .returned v ∧ w'' = w' := fn_sound P n f args w v w' h

end Go.Ev
