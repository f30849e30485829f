import PyProof.Rows.All
import Wide.All
import OpenK.AllK
import Wide.FinOn
import KE.KStateDown
import Lean
import HandS.ForMost
import HandS.ForExc
import HandS.TryMany
import HandS.ExcIs
import HandS.IsInst
import HandS.Defaults
import HandS.ClsMeth
import HandS.EndBits
import HandS.Wide
import HandS.NoneIn
import HandS.Style
import HandS.Head0
import HandS.Head1
import HandS.Head2
import HandS.HeadEnd
import HandS.HeadHook1
import HandS.HeadHook2
import HandS.HeadHook3
import HandS.HeadHook4
import PySem.Challenge.RW_wakefew_k05_gaps_that_double
set_option Elab.async false
set_option linter.all false
set_option maxRecDepth 100000
set_option maxHeartbeats 4000000
namespace W
open PySem PySem.Spec PyProof.Rows L2
/-- a promise's first word: so that no walk goes into it by itself -/
inductive Go : Prop where
  | go
def fdOf (K : PySem.W.Frag) (p : Str × Option Str) : FuncData := match K.lookup (He.fAd K p) with
  | some ⟨_, _, .func fd, _⟩ => fd
  | _ => default
abbrev FnT (K : PySem.W.Frag) (p : Str × Option Str) (x q : Str) (st : Stmt) (dvs : List V) : Prop := FunD K x q (defArgs st) (defBody st) (defScope st) dvs [] (He.fAd K p) (fdOf K p)
theorem fnT_mk {K : PySem.W.Frag} {p : Str × Option Str} {x q : Str} {st : Stmt} {dvs : List V} {fd : FuncData} (F : FunD K x q (defArgs st) (defBody st) (defScope st) dvs [] (He.fAd K p) fd) : FnT K p x q st dvs := by
  have e : fdOf K p = fd := by
    obtain ⟨oc, od, dV, kV, doc, pm, an, cdv, ct, osl, rfl, lk, _⟩ := F.ex
    unfold fdOf
    rw [lk]
  show FunD K x q (defArgs st) (defBody st) (defScope st) dvs [] (He.fAd K p) (fdOf K p)
  rw [e]
  exact F
/-- two readings of one expression -/
theorem PE.or {X : Cx} {e : Expr} {t u : TE} (h : PE X e t) (k : PE X e u) : PE X e (fun σ H Q => t σ H Q ∨ u σ H Q) :=
  ⟨fun pins s σ H Q I z => z.elim (h.run pins s σ H Q I) (k.run pins s σ H Q I)⟩
theorem PT.or {X : Cx} {e : Expr} {t u : TT} (h : PT X e t) (k : PT X e u) : PT X e (fun σ H Q => t σ H Q ∨ u σ H Q) :=
  ⟨fun pins s σ H Q I z => z.elim (h.run pins s σ H Q I) (k.run pins s σ H Q I)⟩
/-- a function read off its class: C.m(self, ..) -/
structure ClsFn (K : PySem.W.Frag) (C : Addr) (m : Str) (f : Addr) : Prop where
  rd : ClX.CRead K C (.type "type")
  at_ : PySem.W.findCls K (.ref C) (.type "type") m = some (.val (.ref f))
  kp : PySem.W.keepIn K (.ref f) = true
theorem pe_clsfn {X : Cx} {CX : CXT} {k : Nat} {f C : Addr} {fd : FuncData} {ps : List Str} {sp : Sp} {dvs : List V} {ds : List Value} {E : XK} {x m : Str} {p pos apos : Pos} {e : Expr} {es : List Expr} {t : TA} {pl : Sem Bool} (c : ClsFn X.K C m f)
    (F : FnOk X.prog X.w X.K X.mg X.base CX k f fd ps sp) (hr : Room k X.A) (hg : Gl X x) (hm : X.mg x = some (.ref C)) (hb : Binds X.K fd ps ds) (hd : Vals dvs ds) (hx : Passes CX X E)
    (ha : PA X (e :: es) t) (hdb : (x == ("__debug__" : Str)) = false := by decide) (hst : starEach (e :: es) X.env = (false, eval e X.env) :: starEach es X.env := by rfl) (hpl : (backTo pos (starEach es X.env)).any (·.1) = false := by rfl)
    (ht : eval (.Call (.Attribute (.Name x p) m apos) (e :: es) [] pos) X.env = (do
      let ov ← eval (.Name x p) X.env
      standAt apos.atName
      let (f, first) ← holding [ov] (getMethod ov m pl)
      callWith pos f first (backTo pos (starEach (e :: es) X.env)) (backToKw pos (keywordEach [] X.env))) := by rfl) :
    PE X (.Call (.Attribute (.Name x p) m apos) (e :: es) [] pos) (tCall sp dvs E t) := by
  refine ⟨fun pins s σ H Q I h => ?_⟩
  refine PySem.W.methodCall_KW (pl := pl) (ld_glob I hg hm ?_ hdb) ht
  refine PySem.W.method_cls I.kIn c.rd.ga ?_
  refine PySem.W.cls_value I.kIn c.rd.rd c.at_ rfl ?_
  have I1 := I.tok (s.toks + 1)
  refine PySem.W.callWith_K (h₀ := X.base) (first := []) I.ok.mod.kin c.kp (thn (ha.run pos pins _ σ H _ I1 h) fun us s1 ⟨vs, H1, I2, r, q⟩ => ⟨I2.kIn, ?_⟩) hst hpl
  exact run_fn F hr hb hd hx I2 r q
/-! ### heaps -/
theorem upd_keep {H : Hp} {a b : Addr} {o u : HO} (h : H b = some u) (n : H a = none) : upd H a o b = some u := by
  rw [upd_ne (ne_of_none h n)]
  exact h
theorem same_new {H : Hp} {p : Addr} {o : HO} (h : H p = none) : Same H (upd H p o) := fun a u e => upd_keep e h
/-- laid, then written -/
theorem upd_keep2 {H : Hp} {a b : Addr} {o u v : HO} (h : H b = some v) (n : H a = none) : upd (upd H a o) a u b = some v := by
  rw [upd_upd]
  exact upd_keep h n
theorem same_upd2 {H : Hp} {p : Addr} {o u : HO} (h : H p = none) : Same H (upd (upd H p o) p u) := fun a v e => upd_keep2 e h
/-- what H0 did not know is written -/
theorem same_mut {H0 H : Hp} {p : Addr} {o : HO} (s : Same H0 H) (h : H0 p = none) : Same H0 (upd H p o) := fun a u e => by
  rw [upd_ne (ne_of_none e h)]
  exact s a u e
theorem Same.seqT {K : PySem.W.Frag} {H H' : Hp} {a : Addr} {xs : List V} (e : Same H H') (h : SqT K H a xs) : SqT K H' a xs := by
  rcases h with (h | ⟨o, h⟩) | h
  · exact .inl (.inl (e _ _ h))
  · exact .inl (.inr ⟨o, e _ _ h⟩)
  · exact .inr h
theorem iteD {c A B : Prop} [Decidable c] (h1 : c → A) (h2 : ¬ c → B) : if decide c = true then A else B := by
  by_cases h : c
  · rw [decide_eq_true h]
    exact iteT (h1 h)
  · rw [decide_eq_false h]
    exact iteF (h2 h)
theorem iteDT {c A B : Prop} [Decidable c] (h : c) (h1 : A) : if decide c = true then A else B := by
  rw [decide_eq_true h]
  exact iteT h1
theorem iteDF {c A B : Prop} [Decidable c] (h : ¬ c) (h1 : B) : if decide c = true then A else B := by
  rw [decide_eq_false h]
  exact iteF h1
theorem iteN {c A B : Prop} [Decidable c] (h1 : c → B) (h2 : ¬ c → A) : if (!decide c) = true then A else B := by
  by_cases h : c
  · rw [decide_eq_true h]
    exact iteF (h1 h)
  · rw [decide_eq_false h]
    exact iteT (h2 h)
theorem iteB {b : Bool} {A B : Prop} (h1 : b = true → A) (h2 : b = false → B) : if b = true then A else B := by
  cases b with
  | true => exact iteT (h1 rfl)
  | false => exact iteF (h2 rfl)
theorem iteE {b c : Bool} {A B : Prop} (e : b = c) (h : if c = true then A else B) : if b = true then A else B := by
  rw [e]
  exact h
theorem V.int_inj {i j : Int} : (V.int i = V.int j) ↔ i = j := ⟨fun h => by injection h, fun h => by rw [h]⟩
theorem V.str_inj {i j : Str} : (V.str i = V.str j) ↔ i = j := ⟨fun h => by injection h, fun h => by rw [h]⟩
theorem V.bl_inj {i j : Bool} : (V.bl i = V.bl j) ↔ i = j := ⟨fun h => by injection h, fun h => by rw [h]⟩
/-! ### facts read off the written part -/
def clsFnB (x m : Str) (K : PySem.W.Frag) : Bool := PySem.W.readsIn K (He.ga K x) (.type "type") && (decide (PySem.W.specialIn K (.ref (He.ga K x)) "__getattribute__" = some (some (.builtin "type.__getattribute__"))) &&
  ((match PySem.W.findCls K (.ref (He.ga K x)) (.type "type") m with
    | some (.val (.ref a)) => decide (a = He.fAd K (x, some m))
    | _ => false) && PySem.W.keepIn K (.ref (He.fAd K (x, some m)))))
theorem clsFn_ok {K : PySem.W.Frag} {x m : Str} (h : clsFnB x m K = true) : ClsFn K (He.ga K x) m (He.fAd K (x, some m)) := by
  obtain ⟨h1, h⟩ := He.ba h
  obtain ⟨h2, h⟩ := He.ba h
  obtain ⟨h3, h4⟩ := He.ba h
  refine ⟨⟨h1, of_decide_eq_true h2⟩, ?_, h4⟩
  split at h3
  · rename_i a e
    rw [e, of_decide_eq_true h3]
  · cases h3
structure InsT (K : PySem.W.Frag) (C : Addr) : Prop where
  ha : PySem.W.findIn K (.ref C) "__class__" = some (some (.builtin "object.__class__"))
  hn : PySem.W.specialIn K (.builtin "object.__class__") "__get__" = some (some (.builtin "getset_descriptor.__get__"))
  htk : PySem.W.takesIn K (.builtin "object.__class__") = some true
  hm : PySem.W.mroIn K C (.type "object") = some true
def insTB (x : Str) (K : PySem.W.Frag) : Bool := decide (PySem.W.findIn K (.ref (He.ga K x)) "__class__" = some (some (.builtin "object.__class__"))) && (decide (PySem.W.specialIn K (.builtin "object.__class__") "__get__" = some (some (.builtin "getset_descriptor.__get__"))) &&
  (decide (PySem.W.takesIn K (.builtin "object.__class__") = some true) && decide (PySem.W.mroIn K (He.ga K x) (.type "object") = some true)))
theorem insT_ok {K : PySem.W.Frag} {x : Str} (h : insTB x K = true) : InsT K (He.ga K x) := by
  obtain ⟨h1, h⟩ := He.ba h
  obtain ⟨h2, h⟩ := He.ba h
  obtain ⟨h3, h4⟩ := He.ba h
  exact ⟨of_decide_eq_true h1, of_decide_eq_true h2, of_decide_eq_true h3, of_decide_eq_true h4⟩
theorem InsT.ty {K : PySem.W.Frag} {C a dx : Addr} {H : Hp} {fs : List (Str × V)} (i : InsT K C) (c : Cls K C) (e : H a = some (.ins C dx fs)) : TyX K H (.ref a) (.ref C) := .base (.ins e c i.ha i.hn i.htk i.hm)
def kitB2 (x y : Str) (b : Bool) (K : PySem.W.Frag) : Bool := decide (PySem.W.kitOne K (.ref (He.ga K x)) (.ref (He.ga K y)) = some b)
theorem kitB2_ok {K : PySem.W.Frag} {x y : Str} {b : Bool} (h : kitB2 x y b K = true) : PySem.W.kitOne K (.ref (He.ga K x)) (.ref (He.ga K y)) = some b := of_decide_eq_true h
def kitB3 (x : Str) (y : String) (b : Bool) (K : PySem.W.Frag) : Bool := decide (PySem.W.kitOne K (.ref (He.ga K x)) (.type y) = some b)
theorem kitB3_ok {K : PySem.W.Frag} {x : Str} {y : String} {b : Bool} (h : kitB3 x y b K = true) : PySem.W.kitOne K (.ref (He.ga K x)) (.type y) = some b := of_decide_eq_true h
/-! ### the head's facts: read off what the module's names and the model's own table reach -/
def asW (g : Addr → Option Obj) : Nat → List Addr
  | 0 => [mainGlobals, PySem.cStatics]
  | n + 1 => He.growD g (asW g n)
structure SaysW (fa : List He.Fa) (fn : List He.DefD) (ex : PySem.W.Frag → Bool) (K : PySem.W.Frag) : Prop where
  d : He.SaysD fa fn K
  more : ex K = true
def obsW (n : Nat) (fa : List He.Fa) (fn : List He.DefD) (ex : PySem.W.Frag → Bool) (g : Addr → Option Obj) : He.AlD × Bool := (He.obsD fa fn (He.frT g (asW g n)), ex (He.frT g (asW g n)))
def hookW (n : Nat) (fa : List He.Fa) (fn : List He.DefD) (ex : PySem.W.Frag → Bool) : PySem.W.Hook where
  α := He.AlD × Bool
  obs := fun s => obsW n fa fn ex s.heap.get?
  val := fun _ => (He.valD fn, true)
  says := fun _ h => ∃ K : PySem.W.Frag, K.In h ∧ SaysW fa fn ex K
  of := fun _ _ e => ⟨_, He.frT_in, ⟨congrArg Prod.fst e, congrArg Prod.snd e⟩⟩
  keeps := fun _ _ _ ⟨K, hK, c⟩ k => ⟨K, PySem.W.Frag.In.keeps hK k, c⟩
theorem obsW_eq {n : Nat} {fa : List He.Fa} {fn : List He.DefD} {ex : PySem.W.Frag → Bool} {g : Addr → Option Obj} {s : Shared} (h : ∀ a, g a = s.heap.get? a) : obsW n fa fn ex g = (hookW n fa fn ex).obs s := by
  have e : g = s.heap.get? := funext h
  rw [e] <;> rfl
/-- the end, with the script's bits told, and that nothing but the script is tracked -/
theorem walk_ofEB {l : PySem.W.OpenLaw} {n k : Nat} {q : Program} {loose : List Str} {XP : (Str → Option Value) → Heap → Prop} {YP : World → Heap → Prop} {d : DefRec} {CX : CXT} {x : Str}
    (hn : l.most = some n) (hn2 : n ≤ sizeLine) (hdf : d.params.defaults = []) (hr : Room k callerA)
    (F : ∀ (w : World) (mg : Str → Option Value) (fa : Addr) (h : Heap), YP w h → h.Ns mainGlobals mg → mg d.name = some (.ref fa) →
      ∃ (K : PySem.W.Frag) (fd : FuncData) (sp : Sp), K.In h ∧ (∀ (s : Shared) (u : Value), BindsTo s fd ⟨[u], []⟩ [(x, u)]) ∧
        (∀ (H : Hp) (a : Addr) (ns : List Int), ns.length ≤ n → (∀ z ∈ ns, Builtin.Int.intBits z ≤ 1048576) → Only H → SqL K H a (ns.map V.int) → sp [.ref a] H (fun v _ => v = .bl true) fun _ _ _ => False) ∧
        ∀ base : Heap, K.In base → base.Ns mainGlobals mg → FnOk l.prog w K mg base CX k fa fd [x] sp)
    (hCX : ∀ (H : Hp) (s : Shared) (e : Value) (s' : Shared), CX [] H s (fun _ _ _ => False) e s' → False) :
    PySem.W.WalkO q loose XP YP l.row.toRowW d [] (fun f vs => PySem.call f vs) := by
  refine Att.attach_callB hn hdf fun w s₀ s₁ mg mb fa o pm cd doc a vs ns G Y ho hd hcd hmg hobj hints hlen hbits hg => ?_
  obtain ⟨K, fd, sp, KX, hb, hsp, hF⟩ := F w mg fa _ Y G.T.g hmg
  exact law_call KX G.T.g G.T.b G.T.builtins G.T.nolimit hg hobj hints (Nat.le_trans hlen hn2) hr hF hb (fun H hO hS => hsp H a ns hlen hbits hO hS) fun H e s' => hCX H s₁ e s'
/-- the law's promise: a list of at most 63 ints is handed in, True comes out -/
structure sp_law (K : PySem.W.Frag) (vs : List V) (H : Hp) (Q : VK) (E : XK) : Prop where
  tt : Go
  ex : ∃ (a : Addr) (ns : List Int), vs = [.ref a] ∧ SqL K H a (ns.map V.int) ∧ ns.length ≤ 63 ∧ (∀ z ∈ ns, Builtin.Int.intBits z ≤ 1048576) ∧ Only H ∧ ∀ H', Q (.bl true) H'
/-! ### new objects: the heap behind by what is known of it -/
theorem PE.imp {X : Cx} {e : Expr} {t t' : TE} (h : PE X e t) (k : ∀ σ H Q, t' σ H Q → t σ H Q) : PE X e t' := ⟨fun pins s σ H Q I z => h.run pins s σ H Q I (k σ H Q z)⟩
theorem OpR.imp {X : Cx} {f : Value → Value → Sem Value} {r r' : R2} (h : OpR X f r) (k : ∀ x y H Q, r' x y H Q → r x y H Q) : OpR X f r' := fun pins s σ H x y v u Q I a b z => h pins s σ H x y v u Q I a b (k x y H Q z)
theorem CallR.imp {X : Cx} {f : Value} {r r' : List V → Hp → VK → Prop} (h : CallR X f r) (k : ∀ xs H Q, r' xs H Q → r xs H Q) : CallR X f r' := fun pins s σ H xs us Q I a z => h pins s σ H xs us Q I a (k xs H Q z)
/-- Q of a new object o -/
def New (H : Hp) (o : HO) (Q : VK) : Prop := ∀ (p : Addr) (H' : Hp), H p = none → Same H H' → H' p = some o → Q (.ref p) H'
theorem New.at_ {H : Hp} {o : HO} {Q : VK} (h : New H o Q) (p : Addr) (hp : H p = none) : Q (.ref p) (upd H p o) := h p _ hp (same_new hp) upd_same
def tTupN (t : TA) : TE := fun σ H Q => t σ H fun xs H1 => xs.length ≤ sizeLine ∧ New H1 (.tup xs) Q
def tLstN (t : TA) : TE := fun σ H Q => t σ H fun xs H1 => xs.length ≤ sizeLine ∧ New H1 (.lst xs) Q
theorem pa_mono {X : Cx} {es : List Expr} {t : TA} (h : PA X es t) : PA X es (fun σ H Q => ∃ Q', (∀ xs H1, Q' xs H1 → Q xs H1) ∧ t σ H Q') := ⟨fun pos pins s σ H Q I ⟨Q', k, z⟩ => thn (h.run pos pins s σ H Q' I z) fun us s1 ⟨vs, H1, I1, r, q⟩ => ⟨vs, H1, I1, r, k _ _ q⟩⟩
section
variable {X : Cx} {es : List Expr} {t : TA} {pos : Pos}
theorem pe_tupN {x1} (h : PA X es t) : PE X (.Tuple es x1 pos) (tTupN t) := PE.imp (pe_tup (pa_mono h)) fun σ H Q z => ⟨_, fun xs H1 w => ⟨w.1, w.2.at_⟩, z⟩
theorem pe_lstN (h : PA X es t) : PE X (.List es pos) (tLstN t) := PE.imp (pe_lst (pa_mono h)) fun σ H Q z => ⟨_, fun xs H1 w => ⟨w.1, w.2.at_⟩, z⟩
theorem pe_dnewN : PE X (.Dict [] [] pos) (fun _ H Q => New H (.dK []) Q) := PE.imp pe_dnewK fun σ H Q z => z.at_
theorem pe_dnewTN : PE X (.Dict [] [] pos) (fun _ H Q => New H (.dT []) Q) := PE.imp pe_dnewT fun σ H Q z => z.at_
def rSlN (K : PySem.W.Frag) : V → Option Int → Option Int → Hp → VK → Prop := fun x lo hi H Q => ∃ a xs, x = .ref a ∧ SqL K H a xs ∧ New H (.lst (cutV xs lo hi)) Q
theorem SlR.imp {r r' : V → Option Int → Option Int → Hp → VK → Prop} (h : SlR X r) (k : ∀ x lo hi H Q, r' x lo hi H Q → r x lo hi H Q) : SlR X r' := by
  intro pins s σ H x v vl vu lo hi sl Q I rx hs pl pu z
  exact h pins s σ H x v vl vu lo hi sl Q I rx hs pl pu (k _ _ _ _ _ z)
theorem sl_listN : SlR X (rSlN X.K) := SlR.imp sl_list fun x lo hi H Q ⟨a, xs, e, h, z⟩ => ⟨a, xs, e, h, z.at_⟩
def rListN (K : PySem.W.Frag) : List V → Hp → VK → Prop := fun xs H Q => ∃ p ys, xs = [.ref p] ∧ (SqL K H p ys ∨ SqT K H p ys) ∧ New H (.lst ys) Q
theorem call_list_ofN : CallR X (.type "list") (rListN X.K) := CallR.imp call_list_of fun xs H Q ⟨p, ys, e, h, z⟩ => ⟨p, ys, e, h, z.at_⟩
def rCatN : R2 := fun x y H Q => ∃ l b xs zs, x = .ref l ∧ y = .ref b ∧ H l = some (.lst xs) ∧ H b = some (.lst zs) ∧ xs.length + zs.length ≤ sizeLine ∧ New H (.lst (xs ++ zs)) Q
theorem op_catN : OpR X (binaryOp .Add) rCatN := OpR.imp op_cat fun x y H Q ⟨l, b, xs, zs, e1, e2, h1, h2, h3, z⟩ => ⟨l, b, xs, zs, e1, e2, h1, h2, h3, z.at_⟩
end
/-! ### what is written: all else is kept -/
def Keep (p : Addr) (H H' : Hp) : Prop := ∀ b o, b ≠ p → H b = some o → H' b = some o
theorem Keep.refl (p : Addr) (H : Hp) : Keep p H H := fun _ _ _ h => h
theorem Keep.trans {p : Addr} {H H1 H2 : Hp} (a : Keep p H H1) (b : Keep p H1 H2) : Keep p H H2 := fun c o n h => b c o n (a c o n h)
theorem Keep.upd {p : Addr} {H : Hp} {o : HO} : Keep p H (L2.upd H p o) := fun b u n h => by
  rw [upd_ne n]
  exact h
theorem Same.keep {p : Addr} {H H' : Hp} (s : Same H H') : Keep p H H' := fun b o _ h => s b o h
theorem Keep.same {p : Addr} {H0 H H' : Hp} (k : Keep p H H') (s : Same H0 H) (n : H0 p = none) : Same H0 H' := fun b o h => k b o (ne_of_none h n) (s b o h)
theorem PS.imp {X : Cx} {st : Stmt} {t t' : TS} (h : PS X st t) (k : ∀ D σ H, t' D σ H → t D σ H) : PS X st t' := ⟨fun pins s σ H D I z => h.run pins s σ H D I (k D σ H z)⟩
theorem pe_mono {X : Cx} {e : Expr} {t : TE} (h : PE X e t) : PE X e (fun σ H Q => ∃ Q', (∀ v H1, Q' v H1 → Q v H1) ∧ t σ H Q') := ⟨fun pins s σ H Q I ⟨Q', k, z⟩ => thn (h.run pins s σ H Q' I z) fun u s1 ⟨v, H1, I1, r, q⟩ => ⟨v, H1, I1, r, k _ _ q⟩⟩
/-- o.f = e -/
def sFldN (K : PySem.W.Frag) (ta tv : TE) (f : Str) : TS := fun D σ H => tv σ H fun y H1 => ta σ H1 fun x H2 => ∃ a C dx fs, x = .ref a ∧ H2 a = some (.ins C dx fs) ∧ Cls K C ∧ NoAttr K C f ∧ fs.length < 1000 ∧
  ∀ H', Keep a H2 H' → H' a = some (.ins C dx (putF f y fs)) → D.nx σ H'
theorem ps_fldN {X : Cx} {o value : Expr} {f : Str} {pos pos' : Pos} {ta tv : TE} (ha : PE X o ta) (hv : PE X value tv) (hs : swapsWith value (some (.Attribute o f pos')) pos.line X.env = pure false) : PS X (.Assign [.Attribute o f pos'] value pos) (sFldN X.K ta tv f) := by
  refine PS.imp (ps_fld (pe_mono ha) (pe_mono hv) hs) fun D σ H z => ⟨_, fun y H1 w => ?_, z⟩
  refine ⟨_, fun x H2 w2 => ?_, w⟩
  obtain ⟨a, C, dx, fs, e, ea, c, n, l, k⟩ := w2
  exact ⟨a, C, dx, fs, e, ea, c, n, l, k _ Keep.upd upd_same⟩
/-- the ways behind a statement joined: J holds behind each -/
def tCut (t : TS) : TS := fun D σ H => ∃ J : L2.St → Hp → Prop, (∀ σ' H', J σ' H' → D.nx σ' H') ∧ t { D with nx := J } σ H
theorem ps_cut {X : Cx} {st : Stmt} {t : TS} (h : PS X st t) : PS X st (tCut t) := by
  refine ⟨fun pins s σ H D I ⟨J, k, z⟩ => thn (h.run pins s σ H _ I z) fun f s1 q => ?_⟩
  cases f with
  | next =>
    obtain ⟨σ', H', I', j⟩ := q
    exact ⟨σ', H', I', k σ' H' j⟩
  | brk => exact q
  | cont => exact q
  | ret u => exact q
/-- a test that may be weakened; a while by a word and a measure of the state -/
def tMonoT (t : TT) : TT := fun σ H Q => ∃ Q' : Bool → Hp → Prop, (∀ b H1, Q' b H1 → Q b H1) ∧ t σ H Q'
theorem pt_monoT {X : Cx} {e : Expr} {t : TT} (h : PT X e t) : PT X e (tMonoT t) := ⟨fun pins s σ H Q I ⟨Q', k, z⟩ => thn (h.run pins s σ H Q' I z) fun b s1 ⟨H1, I1, q⟩ => ⟨H1, I1, k _ _ q⟩⟩
theorem while_w {t : TT} {tb : TS} {D : Ends} {σ : L2.St} {H : Hp} (Pv : L2.St → Hp → Prop) (μ : L2.St → Hp → Nat) (h0 : Pv σ H)
    (hs : ∀ σ H, Pv σ H → t σ H fun b H1 => if b = true then tb { D with nx := fun σ' H' => Pv σ' H' ∧ μ σ' H' < μ σ H, ct := fun σ' H' => Pv σ' H' ∧ μ σ' H' < μ σ H, bk := D.nx } σ H1 else D.nx σ H1) : tWhile (tMonoT t) tb D σ H :=
  while_by Pv μ h0 (fun σ H p => ⟨_, fun _ _ q => q, hs σ H p⟩) fun σ H Q Q' k ⟨Q0, k0, z⟩ => ⟨Q0, fun b H1 q => k _ _ (k0 _ _ q), z⟩
theorem few {fs : List (Str × V)} (h : Nat.blt fs.length 1000 = true) : fs.length < 1000 := Nat.le_of_ble_eq_true h
/-- C(..): a new instance, then its __init__ -/
def tMakeN (C : Addr) (sp : Sp) (dvs : List V) (E : XK) (t : TA) : TE := fun σ H Q => t σ H fun vs H1 => ∀ (x dx : Addr) (H2 : Hp), H1 x = none → Same H1 H2 → H2 x = some (.ins C dx []) → sp (.ref x :: (vs ++ dvs)) H2 (fun v H3 => v = .non ∧ Q (.ref x) H3) E
section
variable {X : Cx} {CX : CXT} {k : Nat} {f C : Addr} {fd : FuncData} {ps : List Str} {sp : Sp} {dvs : List V} {ds : List Value} {E : XK} {x : Str} {p pos : Pos} {e : Expr} {es : List Expr} {t : TA}
theorem make_ex {H1 : Hp} {Q : VK} {vs : List V} (k : ∀ (x dx : Addr) (H2 : Hp), H1 x = none → Same H1 H2 → H2 x = some (.ins C dx []) → sp (.ref x :: (vs ++ dvs)) H2 (fun v H3 => v = .non ∧ Q (.ref x) H3) E) :
    ∀ x dx, H1 x = none → H1 dx = none → dx ≠ x → sp (.ref x :: (vs ++ dvs)) (L2.upd (L2.upd H1 dx (.own x)) x (.ins C dx [])) (fun v H2 => v = .non ∧ Q (.ref x) H2) E := fun x dx hx hd ne =>
  k x dx _ hx ((same_new hd).trans (same_new (by rw [upd_ne ne.symm]; exact hx))) upd_same
theorem pe_makeN (M : Mk X.K C f) (F : FnOk X.prog X.w X.K X.mg X.base CX k f fd ps sp) (hr : Room (k + 1) X.A) (hg : Gl X x) (hm : X.mg x = some (.ref C)) (hb : Binds X.K fd ps ds) (hd : Vals dvs ds) (hx : Passes CX X E)
    (ha : PA X (e :: es) t) (hdb : (x == ("__debug__" : Str)) = false := by decide) (he : starEach (e :: es) X.env = (false, eval e X.env) :: starEach es X.env := by rfl) (hpl : (backTo pos (starEach es X.env)).any (·.1) = false := by rfl) :
    PE X (.Call (.Name x p) (e :: es) [] pos) (tMakeN C sp dvs E t) :=
  PE.imp (pe_make M F hr hg hm hb hd hx (pa_mono ha) hdb he hpl) fun σ H Q z => ⟨_, fun vs H1 w => make_ex w, z⟩
theorem pe_make0N (M : Mk X.K C f) (F : FnOk X.prog X.w X.K X.mg X.base CX k f fd ps sp) (hr : Room (k + 1) X.A) (hg : Gl X x) (hm : X.mg x = some (.ref C)) (hb : Binds X.K fd ps ds) (hd : Vals dvs ds) (hx : Passes CX X E) (hdb : (x == ("__debug__" : Str)) = false := by decide) :
    PE X (.Call (.Name x p) [] [] pos) (tMakeN C sp dvs E tNil) :=
  PE.imp (pe_make0 M F hr hg hm hb hd hx hdb) fun σ H Q z => make_ex z
end
/-! ### values of the built-in kinds -/
def bTys : List String := ["int", "bool", "str", "NoneType", "list", "tuple", "dict"]
theorem bTys_mem {t : String} (h : bTys.contains t = true) : t ∈ bTys := List.contains_iff_mem.mp h
def Base (K : PySem.W.Frag) (H : Hp) (v : V) : Prop := ∃ t : String, TyX K H v (.type t) ∧ t ∈ bTys
theorem base_int {K : PySem.W.Frag} {H : Hp} {i : Int} : Base K H (.int i) := ⟨"int", .base (.int i), bTys_mem (by decide +kernel)⟩
theorem base_bl {K : PySem.W.Frag} {H : Hp} {i : Bool} : Base K H (.bl i) := ⟨"bool", .base (.bl i), bTys_mem (by decide +kernel)⟩
theorem base_str {K : PySem.W.Frag} {H : Hp} {i : Str} : Base K H (.str i) := ⟨"str", .base (.str i), bTys_mem (by decide +kernel)⟩
theorem base_non {K : PySem.W.Frag} {H : Hp} : Base K H .non := ⟨"NoneType", .base .non, bTys_mem (by decide +kernel)⟩
theorem base_lst {K : PySem.W.Frag} {H : Hp} {a : Addr} {xs : List V} (h : H a = some (.lst xs)) : Base K H (.ref a) := ⟨"list", .base (.lst h), bTys_mem (by decide +kernel)⟩
theorem base_tup {K : PySem.W.Frag} {H : Hp} {a : Addr} {xs : List V} (h : H a = some (.tup xs)) : Base K H (.ref a) := ⟨"tuple", .base (.tup h), bTys_mem (by decide +kernel)⟩
/-- an int, the other kinds not -/
def isI : V → Bool
  | .int _ => true
  | _ => false
theorem tyx_isI {K : PySem.W.Frag} {H : Hp} {v : V} {t : String} (h : TyX K H v (.type t)) : (t == "int") = isI v := by
  cases h with
  | base b => cases b <;> first | rfl | decide +kernel
  | _ => first | rfl | decide +kernel
theorem isI_iff {v : V} (h : isI v = true) : ∃ i, v = .int i := by
  cases v with
  | int i => exact ⟨i, rfl⟩
  | _ => cases h
/-- kept through a change of an instance -/
theorem TyX.keep {K : PySem.W.Frag} {H H' : Hp} {p C dx : Addr} {fs : List (Str × V)} {v : V} {t : String} (k : Keep p H H') (hp : H p = some (.ins C dx fs)) (h : TyX K H v (.type t)) : TyX K H' v (.type t) := by
  have ne : ∀ {a : Addr} {o : HO}, H a = some o → (o ≠ .ins C dx fs) → H' a = some o := fun {a o} e n => k a o (fun z => n (by rw [z, hp] at e; exact (Option.some.inj e).symm)) e
  cases h with
  | base b =>
    cases b with
    | non => exact .base .non
    | bl x => exact .base (.bl x)
    | int i => exact .base (.int i)
    | str x => exact .base (.str x)
    | flt x => exact .base (.flt x)
    | lst e => exact .base (.lst (ne e (fun z => nomatch z)))
    | frz e => exact .base (.frz (ne e (fun z => nomatch z)))
    | tup e => exact .base (.tup (ne e (fun z => nomatch z)))
    | dK e => exact .base (.dK (ne e (fun z => nomatch z)))
    | dT e => exact .base (.dT (ne e (fun z => nomatch z)))
  | byt b => exact .byt b
  | set e => exact .set (ne e (fun z => nomatch z))
  | kList e c => exact .kList e c
  | kTuple e c => exact .kTuple e c
  | kDict e c => exact .kDict e c
  | fTuple e => exact .fTuple (ne e (fun z => nomatch z))
  | fDict e => exact .fDict (ne e (fun z => nomatch z))
theorem Base.keep {K : PySem.W.Frag} {H H' : Hp} {p C dx : Addr} {fs : List (Str × V)} {v : V} (k : Keep p H H') (hp : H p = some (.ins C dx fs)) (h : Base K H v) : Base K H' v := by
  obtain ⟨t, h, m⟩ := h
  exact ⟨t, W.TyX.keep k hp h, m⟩
/-! ### more rules -/
theorem pe_powC (n : Nat) {X : Cx} {j j2 : Nat} {b : Int} {p1 p2 pos : Pos} (h0 : decide (n ≤ 1000000) = true := by rfl) (hb : decide (b.natAbs < 2 ^ 64) = true := by rfl) :
    PE X (.BinOp (.Constant (.int b) j p1) .Pow (.Constant (.int (n : Int)) j2 p2) pos) (tC (.int (b ^ n))) := by
  refine ⟨fun pins s σ H Q I h => ?_⟩
  have e := (pe_op (X := X) (pos := pos) op_pow (pe_int (i := b) (j := j) (pos := p1)) (pe_int (i := (n : Int)) (j := j2) (pos := p2))).run pins s σ H Q I
  refine e ⟨b, n, rfl, rfl, ⟨by omega, ?_, of_decide_eq_true hb⟩, ?_⟩
  · have := of_decide_eq_true h0
    omega
  · exact h
end W

namespace W
open PySem PySem.Spec PyProof.Rows L2
def top (i : Nat) : Stmt := PySem.Challenge.pw_wakefew_k05_gaps_that_double.main.body.getD i (.Pass ⟨0, 0, 0, 0⟩)
abbrev s_number : Stmt := top 14
abbrev s_cell_at : Stmt := top 12
abbrev s_most : Stmt := top 17
abbrev s_is_whole : Stmt := top 5
abbrev s_checked : Stmt := top 7
abbrev s_Slowing_Rule_init : Stmt := inClass (top 8) 0
abbrev s_Slowing_Behind_init : Stmt := inClass (top 9) 0
abbrev s_Slowing_init : Stmt := inClass (top 10) 0
abbrev s_whole : Stmt := top 13
abbrev s_is_stretch : Stmt := top 15
abbrev s_Slowing_begin : Stmt := inClass (top 9) 1
abbrev s_Slowing_ended : Stmt := inClass (top 8) 1
abbrev s_Slowing_gap_at : Stmt := inClass (top 10) 1
abbrev s_Slowing_next_of : Stmt := inClass (top 9) 3
abbrev s_Slowing_follow : Stmt := inClass (top 8) 5
abbrev s_gap : Stmt := top 16
abbrev s_law : Stmt := top 18
structure Txt (K : PySem.W.Frag) (mg : Str → Option Value) : Prop where
  z_len : mg "len" = none
  d_cell_at : FnT K ("_law_cell_at", none) "_law_cell_at" "_law_cell_at" s_cell_at []
  g_cell_at : mg "_law_cell_at" = some (.ref (He.ga K "_law_cell_at"))
  d_number : FnT K ("_law_number", none) "_law_number" "_law_number" s_number []
  g_number : mg "_law_number" = some (.ref (He.ga K "_law_number"))
  z_min : mg "min" = none
  d_most : FnT K ("_law_most", none) "_law_most" "_law_most" s_most []
  g_most : mg "_law_most" = some (.ref (He.ga K "_law_most"))
  c_Slowing : Cls K (He.ga K "Slowing")
  n_Slowing_many : NoAttr K (He.ga K "Slowing") "many"
  z_int : mg "int" = none
  z_isinstance : mg "isinstance" = none
  z_bool : mg "bool" = none
  d_is_whole : FnT K ("is_whole", none) "is_whole" "is_whole" s_is_whole []
  g_is_whole : mg "is_whole" = some (.ref (He.ga K "is_whole"))
  x_NoRule : PySem.W.excIn K (He.ga K "NoRule") He.veBase "ValueError.__new__" = true ∧ PySem.W.keepIn K (.ref (He.ga K "NoRule")) = true ∧ PySem.W.subIn K (.ref (He.ga K "NoRule")) (.type "BaseException") = some true ∧ PySem.W.typeIn K (.ref (He.ga K "NoRule")) = some (.type "type")
  g_NoRule : mg "NoRule" = some (.ref (He.ga K "NoRule"))
  d_checked : FnT K ("checked", none) "checked" "checked" s_checked []
  g_checked : mg "checked" = some (.ref (He.ga K "checked"))
  d_Slowing_Rule_init : FnT K ("Rule", some "__init__") "__init__" "Rule.__init__" s_Slowing_Rule_init []
  q_Rule___init__ : ClsFn K (He.ga K "Rule") "__init__" (He.fAd K ("Rule", some "__init__"))
  g_Rule : mg "Rule" = some (.ref (He.ga K "Rule"))
  n_Slowing_start : NoAttr K (He.ga K "Slowing") "start"
  n_Slowing_gap : NoAttr K (He.ga K "Slowing") "gap"
  n_Slowing_wide : NoAttr K (He.ga K "Slowing") "wide"
  d_Slowing_Behind_init : FnT K ("Behind", some "__init__") "__init__" "Behind.__init__" s_Slowing_Behind_init [.int 0, .non]
  q_Behind___init__ : ClsFn K (He.ga K "Behind") "__init__" (He.fAd K ("Behind", some "__init__"))
  g_Behind : mg "Behind" = some (.ref (He.ga K "Behind"))
  n_Slowing_most : NoAttr K (He.ga K "Slowing") "most"
  d_Slowing_init : FnT K ("Slowing", some "__init__") "__init__" "Slowing.__init__" s_Slowing_init [.int 0, .non]
  g_Slowing : mg "Slowing" = some (.ref (He.ga K "Slowing"))
  k_Slowing : Mk K (He.ga K "Slowing") (He.fAd K ("Slowing", some "__init__"))
  z_range : mg "range" = none
  z_tuple : mg "tuple" = none
  d_whole : FnT K ("_law_whole", none) "_law_whole" "_law_whole" s_whole []
  g_whole : mg "_law_whole" = some (.ref (He.ga K "_law_whole"))
  d_Slowing_begin : FnT K ("Slowing", some "begin") "begin" "Behind.begin" s_Slowing_begin []
  m_Slowing_begin : Meth K (He.ga K "Slowing") "begin" (He.fAd K ("Slowing", some "begin"))
  d_is_stretch : FnT K ("_law_is_stretch", none) "_law_is_stretch" "_law_is_stretch" s_is_stretch []
  g_is_stretch : mg "_law_is_stretch" = some (.ref (He.ga K "_law_is_stretch"))
  d_Slowing_ended : FnT K ("Slowing", some "ended") "ended" "Rule.ended" s_Slowing_ended []
  m_Slowing_ended : Meth K (He.ga K "Slowing") "ended" (He.fAd K ("Slowing", some "ended"))
  d_Slowing_gap_at : FnT K ("Slowing", some "gap_at") "gap_at" "Slowing.gap_at" s_Slowing_gap_at []
  m_Slowing_gap_at : Meth K (He.ga K "Slowing") "gap_at" (He.fAd K ("Slowing", some "gap_at"))
  d_Slowing_next_of : FnT K ("Slowing", some "next_of") "next_of" "Behind.next_of" s_Slowing_next_of []
  m_Slowing_next_of : Meth K (He.ga K "Slowing") "next_of" (He.fAd K ("Slowing", some "next_of"))
  d_Slowing_follow : FnT K ("Slowing", some "follow") "follow" "Rule.follow" s_Slowing_follow []
  m_Slowing_follow : Meth K (He.ga K "Slowing") "follow" (He.fAd K ("Slowing", some "follow"))
  d_gap : FnT K ("_law_gap", none) "_law_gap" "_law_gap" s_gap []
  g_gap : mg "_law_gap" = some (.ref (He.ga K "_law_gap"))
  i_Slowing : InsT K (He.ga K "Slowing")
  y_Slowing_Behind : PySem.W.kitOne K (.ref (He.ga K "Slowing")) (.ref (He.ga K "Behind")) = some true
  y_Slowing_Rule : PySem.W.kitOne K (.ref (He.ga K "Slowing")) (.ref (He.ga K "Rule")) = some true
  d_law : FnT K ("law", none) "law" "law" s_law []
  g_law : mg "law" = some (.ref (He.ga K "law"))
/-- the attributes of Slowing -/
abbrev fl_Slowing (v0 v1 v2 v3 v4 : V) : List (Str × V) := [("many", v0), ("start", v1), ("gap", v2), ("wide", v3), ("most", v4)]
theorem lk_Slowing_many {v0 v1 v2 v3 v4 : V} : (fl_Slowing v0 v1 v2 v3 v4).lookup ("many" : Str) = some v0 := by kernel_rfl
theorem pf_Slowing_many {v0 v1 v2 v3 v4 z : V} : putF ("many" : Str) z (fl_Slowing v0 v1 v2 v3 v4) = fl_Slowing z v1 v2 v3 v4 := by kernel_rfl
theorem lk_Slowing_start {v0 v1 v2 v3 v4 : V} : (fl_Slowing v0 v1 v2 v3 v4).lookup ("start" : Str) = some v1 := by kernel_rfl
theorem pf_Slowing_start {v0 v1 v2 v3 v4 z : V} : putF ("start" : Str) z (fl_Slowing v0 v1 v2 v3 v4) = fl_Slowing v0 z v2 v3 v4 := by kernel_rfl
theorem lk_Slowing_gap {v0 v1 v2 v3 v4 : V} : (fl_Slowing v0 v1 v2 v3 v4).lookup ("gap" : Str) = some v2 := by kernel_rfl
theorem pf_Slowing_gap {v0 v1 v2 v3 v4 z : V} : putF ("gap" : Str) z (fl_Slowing v0 v1 v2 v3 v4) = fl_Slowing v0 v1 z v3 v4 := by kernel_rfl
theorem lk_Slowing_wide {v0 v1 v2 v3 v4 : V} : (fl_Slowing v0 v1 v2 v3 v4).lookup ("wide" : Str) = some v3 := by kernel_rfl
theorem pf_Slowing_wide {v0 v1 v2 v3 v4 z : V} : putF ("wide" : Str) z (fl_Slowing v0 v1 v2 v3 v4) = fl_Slowing v0 v1 v2 z v4 := by kernel_rfl
theorem lk_Slowing_most {v0 v1 v2 v3 v4 : V} : (fl_Slowing v0 v1 v2 v3 v4).lookup ("most" : Str) = some v4 := by kernel_rfl
theorem pf_Slowing_most {v0 v1 v2 v3 v4 z : V} : putF ("most" : Str) z (fl_Slowing v0 v1 v2 v3 v4) = fl_Slowing v0 v1 v2 v3 z := by kernel_rfl
theorem nl_Slowing_begin {v0 v1 v2 v3 v4 : V} : (fl_Slowing v0 v1 v2 v3 v4).lookup ("begin" : Str) = none := by kernel_rfl
theorem nl_Slowing_ended {v0 v1 v2 v3 v4 : V} : (fl_Slowing v0 v1 v2 v3 v4).lookup ("ended" : Str) = none := by kernel_rfl
theorem nl_Slowing_gap_at {v0 v1 v2 v3 v4 : V} : (fl_Slowing v0 v1 v2 v3 v4).lookup ("gap_at" : Str) = none := by kernel_rfl
theorem nl_Slowing_next_of {v0 v1 v2 v3 v4 : V} : (fl_Slowing v0 v1 v2 v3 v4).lookup ("next_of" : Str) = none := by kernel_rfl
theorem nl_Slowing_follow {v0 v1 v2 v3 v4 : V} : (fl_Slowing v0 v1 v2 v3 v4).lookup ("follow" : Str) = none := by kernel_rfl
local macro_rules | `(tactic| walk_at "Slowing.many") => `(tactic| refine ⟨_, _, _, _, _, rfl, (by assumption), (‹Txt _ _›).c_Slowing, (‹Txt _ _›).n_Slowing_many, lk_Slowing_many, ?_⟩)
local macro_rules | `(tactic| walk_at "Slowing.many=") => `(tactic| refine ⟨_, _, _, _, rfl, (by assumption), (‹Txt _ _›).c_Slowing, (‹Txt _ _›).n_Slowing_many, few (by kernel_rfl), ?_⟩)
local macro_rules | `(tactic| walk_at "Slowing.start") => `(tactic| refine ⟨_, _, _, _, _, rfl, (by assumption), (‹Txt _ _›).c_Slowing, (‹Txt _ _›).n_Slowing_start, lk_Slowing_start, ?_⟩)
local macro_rules | `(tactic| walk_at "Slowing.start=") => `(tactic| refine ⟨_, _, _, _, rfl, (by assumption), (‹Txt _ _›).c_Slowing, (‹Txt _ _›).n_Slowing_start, few (by kernel_rfl), ?_⟩)
local macro_rules | `(tactic| walk_at "Slowing.gap") => `(tactic| refine ⟨_, _, _, _, _, rfl, (by assumption), (‹Txt _ _›).c_Slowing, (‹Txt _ _›).n_Slowing_gap, lk_Slowing_gap, ?_⟩)
local macro_rules | `(tactic| walk_at "Slowing.gap=") => `(tactic| refine ⟨_, _, _, _, rfl, (by assumption), (‹Txt _ _›).c_Slowing, (‹Txt _ _›).n_Slowing_gap, few (by kernel_rfl), ?_⟩)
local macro_rules | `(tactic| walk_at "Slowing.wide") => `(tactic| refine ⟨_, _, _, _, _, rfl, (by assumption), (‹Txt _ _›).c_Slowing, (‹Txt _ _›).n_Slowing_wide, lk_Slowing_wide, ?_⟩)
local macro_rules | `(tactic| walk_at "Slowing.wide=") => `(tactic| refine ⟨_, _, _, _, rfl, (by assumption), (‹Txt _ _›).c_Slowing, (‹Txt _ _›).n_Slowing_wide, few (by kernel_rfl), ?_⟩)
local macro_rules | `(tactic| walk_at "Slowing.most") => `(tactic| refine ⟨_, _, _, _, _, rfl, (by assumption), (‹Txt _ _›).c_Slowing, (‹Txt _ _›).n_Slowing_most, lk_Slowing_most, ?_⟩)
local macro_rules | `(tactic| walk_at "Slowing.most=") => `(tactic| refine ⟨_, _, _, _, rfl, (by assumption), (‹Txt _ _›).c_Slowing, (‹Txt _ _›).n_Slowing_most, few (by kernel_rfl), ?_⟩)
theorem kt_int_int {K : PySem.W.Frag} : PySem.W.kitOne K (.type "int") (.type "int") = some true := kit_ty (by decide +kernel)
theorem kt_int_bool {K : PySem.W.Frag} : PySem.W.kitOne K (.type "int") (.type "bool") = some false := kit_ty (by decide +kernel)
theorem kt_int_str {K : PySem.W.Frag} : PySem.W.kitOne K (.type "int") (.type "str") = some false := kit_ty (by decide +kernel)
theorem kt_int_list {K : PySem.W.Frag} : PySem.W.kitOne K (.type "int") (.type "list") = some false := kit_ty (by decide +kernel)
theorem kt_int_tuple {K : PySem.W.Frag} : PySem.W.kitOne K (.type "int") (.type "tuple") = some false := kit_ty (by decide +kernel)
theorem kt_int_dict {K : PySem.W.Frag} : PySem.W.kitOne K (.type "int") (.type "dict") = some false := kit_ty (by decide +kernel)
theorem kt_bool_int {K : PySem.W.Frag} : PySem.W.kitOne K (.type "bool") (.type "int") = some true := kit_ty (by decide +kernel)
theorem kt_bool_bool {K : PySem.W.Frag} : PySem.W.kitOne K (.type "bool") (.type "bool") = some true := kit_ty (by decide +kernel)
theorem kt_bool_str {K : PySem.W.Frag} : PySem.W.kitOne K (.type "bool") (.type "str") = some false := kit_ty (by decide +kernel)
theorem kt_bool_list {K : PySem.W.Frag} : PySem.W.kitOne K (.type "bool") (.type "list") = some false := kit_ty (by decide +kernel)
theorem kt_bool_tuple {K : PySem.W.Frag} : PySem.W.kitOne K (.type "bool") (.type "tuple") = some false := kit_ty (by decide +kernel)
theorem kt_bool_dict {K : PySem.W.Frag} : PySem.W.kitOne K (.type "bool") (.type "dict") = some false := kit_ty (by decide +kernel)
theorem kt_str_int {K : PySem.W.Frag} : PySem.W.kitOne K (.type "str") (.type "int") = some false := kit_ty (by decide +kernel)
theorem kt_str_bool {K : PySem.W.Frag} : PySem.W.kitOne K (.type "str") (.type "bool") = some false := kit_ty (by decide +kernel)
theorem kt_str_str {K : PySem.W.Frag} : PySem.W.kitOne K (.type "str") (.type "str") = some true := kit_ty (by decide +kernel)
theorem kt_str_list {K : PySem.W.Frag} : PySem.W.kitOne K (.type "str") (.type "list") = some false := kit_ty (by decide +kernel)
theorem kt_str_tuple {K : PySem.W.Frag} : PySem.W.kitOne K (.type "str") (.type "tuple") = some false := kit_ty (by decide +kernel)
theorem kt_str_dict {K : PySem.W.Frag} : PySem.W.kitOne K (.type "str") (.type "dict") = some false := kit_ty (by decide +kernel)
theorem kt_NoneType_int {K : PySem.W.Frag} : PySem.W.kitOne K (.type "NoneType") (.type "int") = some false := kit_ty (by decide +kernel)
theorem kt_NoneType_bool {K : PySem.W.Frag} : PySem.W.kitOne K (.type "NoneType") (.type "bool") = some false := kit_ty (by decide +kernel)
theorem kt_NoneType_str {K : PySem.W.Frag} : PySem.W.kitOne K (.type "NoneType") (.type "str") = some false := kit_ty (by decide +kernel)
theorem kt_NoneType_list {K : PySem.W.Frag} : PySem.W.kitOne K (.type "NoneType") (.type "list") = some false := kit_ty (by decide +kernel)
theorem kt_NoneType_tuple {K : PySem.W.Frag} : PySem.W.kitOne K (.type "NoneType") (.type "tuple") = some false := kit_ty (by decide +kernel)
theorem kt_NoneType_dict {K : PySem.W.Frag} : PySem.W.kitOne K (.type "NoneType") (.type "dict") = some false := kit_ty (by decide +kernel)
theorem kt_list_int {K : PySem.W.Frag} : PySem.W.kitOne K (.type "list") (.type "int") = some false := kit_ty (by decide +kernel)
theorem kt_list_bool {K : PySem.W.Frag} : PySem.W.kitOne K (.type "list") (.type "bool") = some false := kit_ty (by decide +kernel)
theorem kt_list_str {K : PySem.W.Frag} : PySem.W.kitOne K (.type "list") (.type "str") = some false := kit_ty (by decide +kernel)
theorem kt_list_list {K : PySem.W.Frag} : PySem.W.kitOne K (.type "list") (.type "list") = some true := kit_ty (by decide +kernel)
theorem kt_list_tuple {K : PySem.W.Frag} : PySem.W.kitOne K (.type "list") (.type "tuple") = some false := kit_ty (by decide +kernel)
theorem kt_list_dict {K : PySem.W.Frag} : PySem.W.kitOne K (.type "list") (.type "dict") = some false := kit_ty (by decide +kernel)
theorem kt_tuple_int {K : PySem.W.Frag} : PySem.W.kitOne K (.type "tuple") (.type "int") = some false := kit_ty (by decide +kernel)
theorem kt_tuple_bool {K : PySem.W.Frag} : PySem.W.kitOne K (.type "tuple") (.type "bool") = some false := kit_ty (by decide +kernel)
theorem kt_tuple_str {K : PySem.W.Frag} : PySem.W.kitOne K (.type "tuple") (.type "str") = some false := kit_ty (by decide +kernel)
theorem kt_tuple_list {K : PySem.W.Frag} : PySem.W.kitOne K (.type "tuple") (.type "list") = some false := kit_ty (by decide +kernel)
theorem kt_tuple_tuple {K : PySem.W.Frag} : PySem.W.kitOne K (.type "tuple") (.type "tuple") = some true := kit_ty (by decide +kernel)
theorem kt_tuple_dict {K : PySem.W.Frag} : PySem.W.kitOne K (.type "tuple") (.type "dict") = some false := kit_ty (by decide +kernel)
theorem kt_dict_int {K : PySem.W.Frag} : PySem.W.kitOne K (.type "dict") (.type "int") = some false := kit_ty (by decide +kernel)
theorem kt_dict_bool {K : PySem.W.Frag} : PySem.W.kitOne K (.type "dict") (.type "bool") = some false := kit_ty (by decide +kernel)
theorem kt_dict_str {K : PySem.W.Frag} : PySem.W.kitOne K (.type "dict") (.type "str") = some false := kit_ty (by decide +kernel)
theorem kt_dict_list {K : PySem.W.Frag} : PySem.W.kitOne K (.type "dict") (.type "list") = some false := kit_ty (by decide +kernel)
theorem kt_dict_tuple {K : PySem.W.Frag} : PySem.W.kitOne K (.type "dict") (.type "tuple") = some false := kit_ty (by decide +kernel)
theorem kt_dict_dict {K : PySem.W.Frag} : PySem.W.kitOne K (.type "dict") (.type "dict") = some true := kit_ty (by decide +kernel)
theorem szN {α : Type} {xs : List α} (h : Nat.ble xs.length 100 = true) : xs.length ≤ sizeLine := Nat.le_trans (Nat.le_of_ble_eq_true h) (by decide)
theorem szL {α : Type} {xs : List α} (h : Nat.ble xs.length 100 = true) : xs.length < sizeLine := Nat.lt_of_le_of_lt (Nat.le_of_ble_eq_true h) (by decide)
theorem lg {n : Int} (h : n.natAbs < 2 ^ 200) : n.natAbs.log2 < 1920 := PySem.Flt.log2_lt_of (by decide) (Nat.lt_of_lt_of_le h (Nat.pow_le_pow_right (by decide) (by decide : 200 ≤ 1920)))
theorem mulC {i j : Int} (h : i.natAbs.log2 + j.natAbs.log2 < 1000000) : CMulW i j := h
local macro_rules | `(tactic| walk_at "side") => `(tactic| first
  | (assumption; done)
  | decide +kernel
  | (dsimp only; decide +kernel)
  | exact ⟨by decide +kernel, by decide +kernel⟩
  | exact Or.inl ⟨by decide +kernel, by decide +kernel⟩
  | exact Or.inr ⟨by decide +kernel, by decide +kernel⟩
  | exact mulC (by decide +kernel)
  | (dsimp only; omega))
local macro_rules | `(tactic| walk_at "rd1") => `(tactic| first
  | refine ⟨_, rfl, ?_⟩
  | refine ⟨_, _, rfl, rfl, And.intro (by walk_at "side") ?_⟩
  | refine ⟨_, _, rfl, rfl, ?_⟩
  | refine ⟨rfl, ?_⟩
  | refine ⟨szN rfl, ?_⟩
  | refine ⟨_, _, rfl, ?_⟩
  | refine ⟨_, _, rfl, .inr (SqT.of (by assumption)), ?_⟩
  | refine ⟨_, _, rfl, .inl (by assumption), ?_⟩
  | refine ⟨_, _, rfl, .inl (SqL.of (by assumption)), ?_⟩
  | refine ⟨_, _, _, _, rfl, rfl, SqT.of (by assumption), rfl, ?_⟩
  | ((with_reducible show (ite (_ = true) _ _)); first | refine iteF ?_ | refine iteT ?_)
  | refine ⟨_, _, _, _, _, rfl, .ty _, (by walk_at "ty"), (by walk_at "kit"), ?_⟩)
local macro_rules | `(tactic| walk_at "ty") => `(tactic| first
  | (assumption; done)
  | exact .base (.bl _)
  | exact .base (.int _)
  | exact .base (.str _)
  | exact .base .non
  | exact .base (.tup (by assumption))
  | exact .base (.lst (by assumption)))
local macro_rules | `(tactic| walk_at "kit") => `(tactic| first
  | (assumption; done)
  | exact kt_int_int
  | exact kt_int_bool
  | exact kt_int_str
  | exact kt_int_list
  | exact kt_int_tuple
  | exact kt_int_dict
  | exact kt_bool_int
  | exact kt_bool_bool
  | exact kt_bool_str
  | exact kt_bool_list
  | exact kt_bool_tuple
  | exact kt_bool_dict
  | exact kt_str_int
  | exact kt_str_bool
  | exact kt_str_str
  | exact kt_str_list
  | exact kt_str_tuple
  | exact kt_str_dict
  | exact kt_NoneType_int
  | exact kt_NoneType_bool
  | exact kt_NoneType_str
  | exact kt_NoneType_list
  | exact kt_NoneType_tuple
  | exact kt_NoneType_dict
  | exact kt_list_int
  | exact kt_list_bool
  | exact kt_list_str
  | exact kt_list_list
  | exact kt_list_tuple
  | exact kt_list_dict
  | exact kt_tuple_int
  | exact kt_tuple_bool
  | exact kt_tuple_str
  | exact kt_tuple_list
  | exact kt_tuple_tuple
  | exact kt_tuple_dict
  | exact kt_dict_int
  | exact kt_dict_bool
  | exact kt_dict_str
  | exact kt_dict_list
  | exact kt_dict_tuple
  | exact kt_dict_dict)
local macro_rules | `(tactic| walk_at "rd") => `(tactic| repeat (walk_at "rd1"))
/-- a number of the laws: 0 to 6, to 999, below 10 ** 39 -/
def lnum (c : Int) : Int := if c % 3 = 0 then c / 3 % 7 else if c % 3 = 1 then c / 3 % 1000 else c / 3 % 10 ^ 39
theorem lnum_0 (c : Int) : 0 ≤ lnum c := by
  unfold lnum
  split
  · exact Int.emod_nonneg _ (by decide)
  · split
    · exact Int.emod_nonneg _ (by decide)
    · exact Int.emod_nonneg _ (by decide)
theorem lnum_lt (c : Int) : lnum c < 10 ^ 39 := by
  unfold lnum
  split
  · have := Int.emod_lt_of_pos (c / 3) (b := 7) (by decide)
    omega
  · split
    · have := Int.emod_lt_of_pos (c / 3) (b := 1000) (by decide)
      omega
    · exact Int.emod_lt_of_pos _ (by decide)
def cellAt (ns : List Int) (i : Int) : Int := ns.getD i.toNat 0
theorem cellAt_at {ns : List Int} {i : Int} (h0 : 0 ≤ i) (h : i < ((ns.map V.int).length : Int)) : atI (ns.map V.int) i = some (.int (cellAt ns i)) := by
  have e : i = ((i.toNat : Nat) : Int) := (Int.toNat_of_nonneg h0).symm
  rw [List.length_map] at h
  have hl : i.toNat < ns.length := by omega
  rw [e]
  refine atI_nat ?_
  rw [List.getElem?_map, List.getElem?_eq_getElem hl]
  unfold cellAt
  rw [← e, List.getD_eq_getElem?_getD, List.getElem?_eq_getElem hl] <;> rfl
theorem cellAt_out {ns : List Int} {i : Int} (h0 : 0 ≤ i) (h : ¬ i < ((ns.map V.int).length : Int)) : cellAt ns i = 0 := by
  rw [List.length_map] at h
  unfold cellAt
  rw [List.getD_eq_getElem?_getD, List.getElem?_eq_none (by omega)] <;> rfl
theorem bigM {i j : Int} (ha : i.natAbs < 2 ^ 250) (hb : j.natAbs < 2 ^ 250) : CMulW i j := wide_mul ha hb (by decide) (by decide) (by decide)
theorem bigD {i j : Int} (h : 0 < j) (hb : j.natAbs < 2 ^ 250) : CDivW i j := wide_div h hb (by decide) (by decide)

def goodN (v : V) (least : Int) : Prop := ∃ i, v = .int i ∧ least ≤ i
def goodM (v : V) : Prop := v = .non ∨ goodN v 1
def vO : Option Int → V
  | none => .non
  | some i => .int i
def endedM (m : Option Int) (n : Int) : Bool := match m with
  | none => false
  | some i => decide (i ≤ n)
theorem base_vO {K : PySem.W.Frag} {H : Hp} (m : Option Int) : Base K H (vO m) := by
  cases m with
  | none => exact base_non
  | some i => exact base_int
theorem scal_vO (m : Option Int) : scal (vO m) (vO m) = true := by
  cases m <;> rfl
theorem vO_non (m : Option Int) : decide (vO m = .non) = m.isNone := by
  cases m <;> simp [vO]
theorem goodM_vO {m : Option Int} (h : ∀ i, m = some i → 1 ≤ i) : goodM (vO m) := by
  cases m with
  | none => exact .inl rfl
  | some i => exact .inr ⟨i, rfl, h i rfl⟩
def behindOk (a b c d : V) : Prop := goodN a 0 ∧ goodM d ∧ goodN b 1 ∧ goodN c 0
def tI (t : String) : Bool := t == "int" || t == "bool"
theorem kit_int {K : PySem.W.Frag} {t : String} (h : t ∈ bTys) : PySem.W.kitOne K (.type t) (.type "int") = some (tI t) := by
  simp only [bTys, List.mem_cons, List.not_mem_nil, or_false] at h
  rcases h with rfl | rfl | rfl | rfl | rfl | rfl | rfl <;> exact kit_ty (by decide +kernel)
theorem kit_bool {K : PySem.W.Frag} {t : String} (h : t ∈ bTys) : PySem.W.kitOne K (.type t) (.type "bool") = some (t == "bool") := by
  simp only [bTys, List.mem_cons, List.not_mem_nil, or_false] at h
  rcases h with rfl | rfl | rfl | rfl | rfl | rfl | rfl <;> exact kit_ty (by decide +kernel)
theorem kit_or {t : String} (h : t ∈ bTys) : tI t = tI t := rfl
theorem kit_nb {t : String} (h : t ∈ bTys) (e : tI t = true) : (t == "int") = !(t == "bool") := by
  simp only [bTys, List.mem_cons, List.not_mem_nil, or_false] at h
  rcases h with rfl | rfl | rfl | rfl | rfl | rfl | rfl <;> revert e <;> decide +kernel
theorem kit_ni {t : String} (h : t ∈ bTys) (e : tI t = false) : (t == "int") = false := by
  simp only [bTys, List.mem_cons, List.not_mem_nil, or_false] at h
  rcases h with rfl | rfl | rfl | rfl | rfl | rfl | rfl <;> revert e <;> decide +kernel
theorem eqv_ii (a b c e : Int) : PyData.eqv (.tuple [.int a, .int b]) (.tuple [.int c, .int e]) = decide (a = c ∧ b = e) := by
  simp [PyData.eqv, PyData.eqvAll, Bool.beq_eq_decide_eq]
theorem dp_ii {K : PySem.W.Frag} {H : Hp} {f : Addr} {a b : Int} (h : H f = some (.tup [.int a, .int b])) : Dp K H (.ref f) (.tuple [.int a, .int b]) := .tup (SqT.of h) (.cons (.int a) (.cons (.int b) .nil))
def nxt (mo g : Int) : Int := if mo < 2 * g then mo else 2 * g
def iter (mo : Int) : Nat → Int → Int
  | 0, g => g
  | k + 1, g => iter mo k (nxt mo g)
theorem nxt_bd {mo g : Int} (h1 : 1 ≤ g) (h2 : g ≤ mo) : g ≤ nxt mo g ∧ nxt mo g ≤ mo := by
  unfold nxt
  split <;> omega
theorem nxt_fix {mo : Int} (h : 1 ≤ mo) : nxt mo mo = mo := by
  unfold nxt
  rw [if_pos (by omega)]
theorem iter_fix {mo : Int} (h : 1 ≤ mo) : ∀ k, iter mo k mo = mo
  | 0 => rfl
  | k + 1 => by
    show iter mo k (nxt mo mo) = mo
    rw [nxt_fix h]
    exact iter_fix h k
theorem iter_bd {mo : Int} : ∀ (k : Nat) {g : Int}, 1 ≤ g → g ≤ mo → g ≤ iter mo k g ∧ iter mo k g ≤ mo
  | 0, g, h1, h2 => ⟨Int.le_refl _, h2⟩
  | k + 1, g, h1, h2 => by
    have a := nxt_bd h1 h2
    have b := iter_bd k (g := nxt mo g) (by omega) a.2
    exact ⟨Int.le_trans a.1 b.1, b.2⟩
theorem iter_succ {mo : Int} : ∀ (k : Nat) (g : Int), iter mo (k + 1) g = nxt mo (iter mo k g)
  | 0, g => rfl
  | k + 1, g => iter_succ k (nxt mo g)
section
variable {P : Program} {w : World} {K : PySem.W.Frag} {mg : Str → Option Value} {base : Heap}
theorem sc_number : FnScope ["_law_cell"] ["_law_cell"] (defScope s_number) := ⟨rfl, rfl, rfl, by decide +kernel, rfl, by decide +kernel, by decide +kernel⟩
structure sp_number (K : PySem.W.Frag) (vs : List V) (H : Hp) (Q : VK) (E : XK) : Prop where
  tt : Go
  ex : ∃ (c : Int), vs = [.int c] ∧ Q (.int (lnum c)) H
set_option maxHeartbeats 4000000 in
theorem ok_number (T : Txt K mg) : FnOk P w K mg base CX0 1 (He.fAd K ("_law_number", none)) (fdOf K ("_law_number", none)) ["_law_cell"] (sp_number K) := by
  refine T.d_number.ok sc_number (fun vs H Q E h => ?_) (fun cdv A outer s H vs Q E hr h => ?_)
  · obtain ⟨c, rfl, _⟩ := h.ex
    rfl
  · obtain ⟨c, rfl, k⟩ := h.ex
    refine ⟨_, (PSs.nox (pss_cons (ps_if (pt_cmpR op_eq (pe_op op_mod (pv 0) pe_int) pe_int (nomark _)) (pss_one (ps_ret (pe_op op_mod (pe_op op_fdiv (pv 0) pe_int) pe_int))) pss_nil)
      (pss_cons (ps_if (pt_cmpR op_eq (pe_op op_mod (pv 0) pe_int) pe_int (nomark _)) (pss_one (ps_ret (pe_op op_mod (pe_op op_fdiv (pv 0) pe_int) pe_int))) pss_nil)
      (pss_one (ps_ret (pe_op op_mod (pe_op op_fdiv (pv 0) pe_int) (pe_powC 39))))))), ?_⟩
    walk_at "rd"
    refine iteD (fun e => ?_) (fun e => ?_)
    · have e1 : lnum c = c / 3 % 7 := if_pos (V.int_inj.mp e)
      rw [e1] at k
      walk_at "rd"
      exact k
    · walk_at "rd"
      refine iteD (fun e2 => ?_) (fun e2 => ?_)
      · have e1 : lnum c = c / 3 % 1000 := (if_neg (fun z => e (V.int_inj.mpr z))).trans (if_pos (V.int_inj.mp e2))
        rw [e1] at k
        walk_at "rd"
        exact k
      · have e1 : lnum c = c / 3 % 10 ^ 39 := (if_neg (fun z => e (V.int_inj.mpr z))).trans (if_neg (fun z => e2 (V.int_inj.mpr z)))
        rw [e1] at k
        walk_at "rd"
        exact k
local macro_rules | `(tactic| walk_at "rd1") => `(tactic| refine sp_number.mk .go ⟨_, rfl, ?_⟩)
theorem b_number (T : Txt K mg) : Binds K (fdOf K ("_law_number", none)) ["_law_cell"] [] := T.d_number.bindsN fun _ _ _ _ _ _ us hl => match us, hl with | [_], _ => rfl
theorem sc_cell_at : FnScope ["_law_script", "_law_k"] ["_law_script", "_law_k"] (defScope s_cell_at) := ⟨rfl, rfl, rfl, by decide +kernel, rfl, by decide +kernel, by decide +kernel⟩
structure sp_cell_at (K : PySem.W.Frag) (vs : List V) (H : Hp) (Q : VK) (E : XK) : Prop where
  tt : Go
  ex : ∃ (a : Addr) (ns : List Int) (i : Int), vs = [.ref a, .int i] ∧ SqL K H a (ns.map V.int) ∧ 0 ≤ i ∧ Q (.int (cellAt ns i)) H
set_option maxHeartbeats 4000000 in
theorem ok_cell_at (T : Txt K mg) : FnOk P w K mg base CX0 1 (He.fAd K ("_law_cell_at", none)) (fdOf K ("_law_cell_at", none)) ["_law_script", "_law_k"] (sp_cell_at K) := by
  refine T.d_cell_at.ok sc_cell_at (fun vs H Q E h => ?_) (fun cdv A outer s H vs Q E hr h => ?_)
  · obtain ⟨a, ns, i, rfl, _⟩ := h.ex
    rfl
  · obtain ⟨a, ns, i, rfl, hS, h0, k⟩ := h.ex
    refine ⟨_, (PSs.nox (pss_cons (ps_if (pt_cmpR op_lt (pv 1) (pe_callB call_len_seq (by rfl) T.z_len (by decide +kernel) (pa_cons (pv 0) pa_nil)) (nomark _)) (pss_one (ps_ret (pe_ix ix_list (pv 0) (pv 1) (fun _ _ => rfl)))) pss_nil)
      (pss_one (ps_ret pe_int)))), ?_⟩
    refine ⟨_, rfl, _, rfl, _, _, rfl, .inl hS, _, _, rfl, rfl, _, rfl, ?_⟩
    refine iteD (fun h => ?_) (fun h => ?_)
    · exact ⟨_, rfl, _, rfl, a, _, i, _, rfl, rfl, hS, cellAt_at h0 h, k⟩
    · rw [cellAt_out h0 h] at k
      exact k
local macro_rules | `(tactic| walk_at "rd1") => `(tactic| refine sp_cell_at.mk .go ⟨_, _, _, rfl, (by assumption), (by first | decide | omega), ?_⟩)
theorem b_cell_at (T : Txt K mg) : Binds K (fdOf K ("_law_cell_at", none)) ["_law_script", "_law_k"] [] := T.d_cell_at.bindsN fun _ _ _ _ _ _ us hl => match us, hl with | [_, _], _ => rfl
theorem sc_most : FnScope ["_law_gap_here", "_law_cell", "_law_more"] ["_law_gap_here", "_law_cell"] (defScope s_most) := ⟨rfl, rfl, rfl, by decide +kernel, rfl, by decide +kernel, by decide +kernel⟩
structure sp_most (K : PySem.W.Frag) (vs : List V) (H : Hp) (Q : VK) (E : XK) : Prop where
  tt : Go
  ex : ∃ (g c : Int), vs = [.int g, .int c] ∧ 1 ≤ g ∧ g < 10 ^ 40 ∧ ∀ mo, g ≤ mo → mo < 10 ^ 50 → Q (.int mo) H
set_option maxHeartbeats 4000000 in
theorem ok_most (T : Txt K mg) : FnOk P w K mg base CX0 2 (He.fAd K ("_law_most", none)) (fdOf K ("_law_most", none)) ["_law_gap_here", "_law_cell"] (sp_most K) := by
  refine T.d_most.ok sc_most (fun vs H Q E h => ?_) (fun cdv A outer s H vs Q E hr h => ?_)
  · obtain ⟨g, c, rfl, _⟩ := h.ex
    rfl
  · obtain ⟨g, c, rfl, hg, hg2, k⟩ := h.ex
    refine ⟨_, (PSs.nox (pss_cons (ps_set (i := 2) sc_most.nd rfl (Or.inl rfl) (pe_call (ok_number T) (hr.mono (by decide)) rfl T.g_number T.d_number.kp (b_number T) .nil pass0 (pa_cons (pe_op op_fdiv (pv 1) pe_int) pa_nil)))
      (pss_cons (ps_if (pt_cmpR op_eq (pe_op op_mod (pv 1) pe_int) pe_int (nomark _)) (pss_one (ps_ret (pe_op op_add (pv 0) (pv 2)))) pss_nil)
      (pss_one (ps_ret (pe_callB (call_min2 rfl) (by rfl) T.z_min (by decide +kernel) (pa_cons (pe_op op_mulW (pv 0) (pe_op op_add pe_int (pv 2))) (pa_cons (pe_op op_sub (pe_powC 40) pe_int) pa_nil)))))))), ?_⟩
    have h0 := lnum_0 (c / 2)
    have h1 := lnum_lt (c / 2)
    walk_at "rd"
    refine iteD (fun e => ?_) (fun e => ?_)
    · walk_at "rd"
      exact k _ (by omega) (by omega)
    · walk_at "rd"
      refine ⟨bigM (by omega) (by omega), ?_⟩
      have h3 : g ≤ g * (1 + lnum (c / 2)) := by
        have := Int.mul_le_mul_of_nonneg_left (show 1 ≤ 1 + lnum (c / 2) by omega) (show 0 ≤ g by omega)
        omega
      walk_at "rd"
      by_cases hh : (10 : Int) ^ 40 - 1 < g * (1 + lnum (c / 2))
      · have e2 : (if (10 : Int) ^ 40 - 1 < g * (1 + lnum (c / 2)) then (10 : Int) ^ 40 - 1 else g * (1 + lnum (c / 2))) = 10 ^ 40 - 1 := if_pos hh
        refine (congrArg (fun z => Q (V.int z) H) e2).mpr (k _ (by omega) (by omega))
      · have e2 : (if (10 : Int) ^ 40 - 1 < g * (1 + lnum (c / 2)) then (10 : Int) ^ 40 - 1 else g * (1 + lnum (c / 2))) = g * (1 + lnum (c / 2)) := if_neg hh
        refine (congrArg (fun z => Q (V.int z) H) e2).mpr (k _ (by omega) (by omega))
theorem b_most (T : Txt K mg) : Binds K (fdOf K ("_law_most", none)) ["_law_gap_here", "_law_cell"] [] := T.d_most.bindsN fun _ _ _ _ _ _ us hl => match us, hl with | [_, _], _ => rfl
theorem sc_is_whole : FnScope ["thing"] ["thing"] (defScope s_is_whole) := ⟨rfl, rfl, rfl, by decide +kernel, rfl, by decide +kernel, by decide +kernel⟩
structure sp_is_whole (K : PySem.W.Frag) (vs : List V) (H : Hp) (Q : VK) (E : XK) : Prop where
  tt : Go
  ex : ∃ (x : V), vs = [x] ∧ Base K H x ∧ Q (.bl (isI x)) H
set_option maxHeartbeats 4000000 in
theorem ok_is_whole (T : Txt K mg) : FnOk P w K mg base CX0 1 (He.fAd K ("is_whole", none)) (fdOf K ("is_whole", none)) ["thing"] (sp_is_whole K) := by
  refine T.d_is_whole.ok sc_is_whole (fun vs H Q E h => ?_) (fun cdv A outer s H vs Q E hr h => ?_)
  · obtain ⟨x, rfl, _⟩ := h.ex
    rfl
  · obtain ⟨x, rfl, hb, k⟩ := h.ex
    refine ⟨_, (PSs.nox (pss_one (ps_ret (pe_and (pe_callB call_isi (by rfl) T.z_isinstance (by decide +kernel) (pa_cons (pv 0) (pa_cons (pe_bltn (v := .ty "int") (by rfl) T.z_int (by decide +kernel) rfl) pa_nil))) (pe_one (pe_not (pe_callB call_isi (by rfl) T.z_isinstance (by decide +kernel) (pa_cons (pv 0) (pa_cons (pe_bltn (v := .ty "bool") (by rfl) T.z_bool (by decide +kernel) rfl) pa_nil))))))))), ?_⟩
    obtain ⟨t, hty, ht⟩ := hb
    rw [← tyx_isI hty] at k
    refine ⟨_, rfl, _, _, _, _, _, rfl, .ty _, hty, kit_int ht, _, rfl, ?_⟩
    refine iteE (kit_or ht) ?_
    refine iteB (fun e => ?_) (fun e => ?_)
    · refine ⟨_, rfl, _, _, _, _, _, rfl, .ty _, hty, kit_bool ht, _, rfl, ?_⟩
      rw [kit_nb ht e] at k
      exact k
    · rw [kit_ni ht e] at k
      exact k
theorem b_is_whole (T : Txt K mg) : Binds K (fdOf K ("is_whole", none)) ["thing"] [] := T.d_is_whole.bindsN fun _ _ _ _ _ _ us hl => match us, hl with | [_], _ => rfl
theorem sc_checked : FnScope ["number", "least"] ["number", "least"] (defScope s_checked) := ⟨rfl, rfl, rfl, by decide +kernel, rfl, by decide +kernel, by decide +kernel⟩
structure sp_checked (K : PySem.W.Frag) (vs : List V) (H : Hp) (Q : VK) (E : XK) : Prop where
  tt : Go
  ex : ∃ (v : V) (least : Int), vs = [v, .int least] ∧ Base K H v ∧ (goodN v least → Q v H) ∧ (¬ goodN v least → E (.ref (He.ga K "NoRule")) none H)
set_option maxHeartbeats 4000000 in
theorem ok_checked (T : Txt K mg) : FnOk P w K mg base (L2.CX P w) 2 (He.fAd K ("checked", none)) (fdOf K ("checked", none)) ["number", "least"] (sp_checked K) := by
  refine T.d_checked.ok sc_checked (fun vs H Q E h => ?_) (fun cdv A outer s H vs Q E hr h => ?_)
  · obtain ⟨v, least, rfl, _⟩ := h.ex
    rfl
  · obtain ⟨v, least, rfl, hb, k, kE⟩ := h.ex
    refine ⟨_, (pss_cons (ps_if (PW.pt (pw_or (pt_not (pt_val (pe_call (ok_is_whole T) (hr.mono (by decide)) rfl T.g_is_whole T.d_is_whole.kp (b_is_whole T) .nil pass0 (pa_cons (pv 0) pa_nil)))) (pw_or1 (pt_cmpR op_lt (pv 0) (pv 1) (nomark _))))) (pss_one (ps_raise rfl (takes_of rfl rfl rfl rfl) (pmk_own PySem.F.excBase_ValueError T.x_NoRule.1 T.g_NoRule T.x_NoRule.2.1 (raises_own T.x_NoRule.2.2.1 T.x_NoRule.2.2.2) rfl))) pss_nil)
      (pss_one (ps_ret (pv 0)))), ?_⟩
    walk_at "rd"
    refine ⟨.go, v, rfl, hb, ?_⟩
    walk_at "rd"
    cases hi : isI v with
    | false =>
      walk_at "rd"
      refine kE fun ⟨i, e, _⟩ => ?_
      rw [e] at hi
      cases hi
    | true =>
      obtain ⟨i, rfl⟩ := isI_iff hi
      walk_at "rd"
      refine iteD (fun c => ?_) (fun c => ?_)
      · exact kE fun ⟨j, e, l⟩ => by
          have e2 : i = j := V.int_inj.mp e
          omega
      · walk_at "rd"
        exact k ⟨i, rfl, by omega⟩
theorem b_checked (T : Txt K mg) : Binds K (fdOf K ("checked", none)) ["number", "least"] [] := T.d_checked.bindsN fun _ _ _ _ _ _ us hl => match us, hl with | [_, _], _ => rfl
theorem sc_Slowing_Rule_init : FnScope ["self", "many"] ["self", "many"] (defScope s_Slowing_Rule_init) := ⟨rfl, rfl, rfl, by decide +kernel, rfl, by decide +kernel, by decide +kernel⟩
structure sp_Slowing_Rule_init (K : PySem.W.Frag) (vs : List V) (H : Hp) (Q : VK) (E : XK) : Prop where
  tt : Go
  ex : ∃ (p dx : Addr) (m : V), vs = [.ref p, m] ∧ H p = some (.ins (He.ga K "Slowing") dx []) ∧ Base K H m ∧ (goodM m → ∀ H', Keep p H H' → H' p = some (.ins (He.ga K "Slowing") dx [("many", m)]) → Q .non H') ∧
    (¬ goodM m → ∀ H', Keep p H H' → E (.ref (He.ga K "NoRule")) none H')
set_option maxHeartbeats 4000000 in
theorem ok_Slowing_Rule_init (T : Txt K mg) : FnOk P w K mg base (L2.CX P w) 3 (He.fAd K ("Rule", some "__init__")) (fdOf K ("Rule", some "__init__")) ["self", "many"] (sp_Slowing_Rule_init K) := by
  refine T.d_Slowing_Rule_init.ok sc_Slowing_Rule_init (fun vs H Q E h => ?_) (fun cdv A outer s H vs Q E hr h => ?_)
  · obtain ⟨p, dx, m, rfl, _⟩ := h.ex
    rfl
  · obtain ⟨p, dx, m, rfl, hp, hb, k, kE⟩ := h.ex
    refine ⟨_, (pss_cons (ps_fldN (pv 0) (pv 1) rfl)
      (pss_one (ps_if (pt_cmpR op_notN (pv 1) pe_non (nomark _)) (pss_one (ps_expr (pe_call (ok_checked T) (hr.mono (by decide)) rfl T.g_checked T.d_checked.kp (b_checked T) .nil (passes_call (takes_of rfl rfl rfl rfl) (fun _ _ _ _ z => z)) (pa_cons (pv 1) (pa_cons pe_int pa_nil))))) pss_nil))), ?_⟩
    refine ⟨_, rfl, _, rfl, p, _, dx, _, rfl, hp, T.c_Slowing, T.n_Slowing_many, by decide, fun H1 k1 e1 => ?_⟩
    walk_at "rd"
    by_cases hm : m = .non
    · subst hm
      walk_at "rd"
      exact k (.inl rfl) H1 k1 e1
    · refine iteE (c := true) (by simp [hm]) ?_
      walk_at "rd"
      refine ⟨.go, m, 1, rfl, hb.keep k1 hp, fun g => ?_, fun g => ?_⟩
      · exact k (.inr g) H1 k1 e1
      · exact kE (fun z => z.elim hm g) H1 k1
theorem b_Slowing_Rule_init (T : Txt K mg) : Binds K (fdOf K ("Rule", some "__init__")) ["self", "many"] [] := T.d_Slowing_Rule_init.bindsN fun _ _ _ _ _ _ us hl => match us, hl with | [_, _], _ => rfl
theorem sc_Slowing_Behind_init : FnScope ["self", "start", "gap", "wide", "many"] ["self", "start", "gap", "wide", "many"] (defScope s_Slowing_Behind_init) := ⟨rfl, rfl, rfl, by decide +kernel, rfl, by decide +kernel, by decide +kernel⟩
structure sp_Slowing_Behind_init (K : PySem.W.Frag) (vs : List V) (H : Hp) (Q : VK) (E : XK) : Prop where
  tt : Go
  ex : ∃ (p dx : Addr) (a b c d : V), vs = [.ref p, a, b, c, d] ∧ H p = some (.ins (He.ga K "Slowing") dx []) ∧ Base K H a ∧ Base K H b ∧ Base K H c ∧ Base K H d ∧
    (behindOk a b c d → ∀ H', Keep p H H' → H' p = some (.ins (He.ga K "Slowing") dx [("many", d), ("start", a), ("gap", b), ("wide", c)]) → Q .non H') ∧
    (¬ behindOk a b c d → ∀ H', Keep p H H' → E (.ref (He.ga K "NoRule")) none H')
set_option maxHeartbeats 4000000 in
theorem ok_Slowing_Behind_init (T : Txt K mg) : FnOk P w K mg base (L2.CX P w) 4 (He.fAd K ("Behind", some "__init__")) (fdOf K ("Behind", some "__init__")) ["self", "start", "gap", "wide", "many"] (sp_Slowing_Behind_init K) := by
  refine T.d_Slowing_Behind_init.ok sc_Slowing_Behind_init (fun vs H Q E h => ?_) (fun cdv A outer s H vs Q E hr h => ?_)
  · obtain ⟨p, dx, a, b, c, d, rfl, _⟩ := h.ex
    rfl
  · obtain ⟨p, dx, a, b, c, d, rfl, hp, ha, hb, hc, hd, k, kE⟩ := h.ex
    refine ⟨_, (pss_cons (ps_expr (pe_clsfn T.q_Rule___init__ (ok_Slowing_Rule_init T) (hr.mono (by decide)) rfl T.g_Rule (b_Slowing_Rule_init T) .nil (passes_call (takes_of rfl rfl rfl rfl) (fun _ _ _ _ z => z)) (pa_cons (pv 0) (pa_cons (pv 4) pa_nil))))
      (pss_cons (ps_fldN (pv 0) (pe_call (ok_checked T) (hr.mono (by decide)) rfl T.g_checked T.d_checked.kp (b_checked T) .nil (passes_call (takes_of rfl rfl rfl rfl) (fun _ _ _ _ z => z)) (pa_cons (pv 1) (pa_cons pe_int pa_nil))) rfl)
      (pss_cons (ps_fldN (pv 0) (pe_call (ok_checked T) (hr.mono (by decide)) rfl T.g_checked T.d_checked.kp (b_checked T) .nil (passes_call (takes_of rfl rfl rfl rfl) (fun _ _ _ _ z => z)) (pa_cons (pv 2) (pa_cons pe_int pa_nil))) rfl)
      (pss_one (ps_fldN (pv 0) (pe_call (ok_checked T) (hr.mono (by decide)) rfl T.g_checked T.d_checked.kp (b_checked T) .nil (passes_call (takes_of rfl rfl rfl rfl) (fun _ _ _ _ z => z)) (pa_cons (pv 3) (pa_cons pe_int pa_nil))) rfl))))), ?_⟩
    walk_at "rd"
    refine ⟨.go, p, dx, d, rfl, hp, hd, fun gd H1 k1 e1 => ?_, fun g H1 k1 => kE (fun z => g z.2.1) H1 k1⟩
    walk_at "rd"
    refine ⟨.go, a, 0, rfl, ha.keep k1 hp, fun ga => ?_, fun g => kE (fun z => g z.1) H1 k1⟩
    refine ⟨_, rfl, p, _, dx, _, rfl, e1, T.c_Slowing, T.n_Slowing_start, few (by kernel_rfl), fun H2 k2 e2 => ?_⟩
    have k12 := k1.trans k2
    walk_at "rd"
    refine ⟨.go, b, 1, rfl, hb.keep k12 hp, fun gb => ?_, fun g => kE (fun z => g z.2.2.1) H2 k12⟩
    refine ⟨_, rfl, p, _, dx, _, rfl, e2, T.c_Slowing, T.n_Slowing_gap, few (by kernel_rfl), fun H3 k3 e3 => ?_⟩
    have k13 := k12.trans k3
    walk_at "rd"
    refine ⟨.go, c, 0, rfl, hc.keep k13 hp, fun gc => ?_, fun g => kE (fun z => g z.2.2.2) H3 k13⟩
    refine ⟨_, rfl, p, _, dx, _, rfl, e3, T.c_Slowing, T.n_Slowing_wide, few (by kernel_rfl), fun H4 k4 e4 => ?_⟩
    refine k ⟨ga, gd, gb, gc⟩ H4 (k13.trans k4) ?_
    rw [e4]
    exact congrArg (fun l => some (HO.ins (He.ga K "Slowing") dx l)) (by kernel_rfl)
theorem bn_Slowing_Behind_init_5 (T : Txt K mg) : ∃ ds, Vals (([.int 0, .non] : List V).drop 2) ds ∧ Binds K (fdOf K ("Behind", some "__init__")) ["self", "start", "gap", "wide", "many"] ds := T.d_Slowing_Behind_init.binds1 5 2 (by simp) rfl fun _ _ _ _ _ _ _ us its h1 h2 => match us, its, h1, h2 with | [_, _, _, _, _], [_, _], _, _ => ⟨_, rfl, rfl⟩
theorem sc_Slowing_init : FnScope ["self", "start", "gap", "most", "wide", "many"] ["self", "start", "gap", "most", "wide", "many"] (defScope s_Slowing_init) := ⟨rfl, rfl, rfl, by decide +kernel, rfl, by decide +kernel, by decide +kernel⟩
def slowOk (a b e c d : V) : Prop := behindOk a b c d ∧ ∃ g i, b = .int g ∧ e = .int i ∧ g ≤ i
structure sp_Slowing_init (K : PySem.W.Frag) (vs : List V) (H : Hp) (Q : VK) (E : XK) : Prop where
  tt : Go
  ex : ∃ (p dx : Addr) (a b e c d : V), vs = [.ref p, a, b, e, c, d] ∧ H p = some (.ins (He.ga K "Slowing") dx []) ∧ Base K H a ∧ Base K H b ∧ Base K H e ∧ Base K H c ∧ Base K H d ∧
    (slowOk a b e c d → ∀ H', Keep p H H' → H' p = some (.ins (He.ga K "Slowing") dx (fl_Slowing d a b c e)) → Q .non H') ∧
    (¬ slowOk a b e c d → ∀ H', Keep p H H' → E (.ref (He.ga K "NoRule")) none H')
set_option maxHeartbeats 4000000 in
theorem ok_Slowing_init (T : Txt K mg) : FnOk P w K mg base (L2.CX P w) 5 (He.fAd K ("Slowing", some "__init__")) (fdOf K ("Slowing", some "__init__")) ["self", "start", "gap", "most", "wide", "many"] (sp_Slowing_init K) := by
  obtain ⟨ds_bd_Slowing_Behind_init_5, hv_bd_Slowing_Behind_init_5, bd_Slowing_Behind_init_5⟩ := bn_Slowing_Behind_init_5 T
  refine T.d_Slowing_init.ok sc_Slowing_init (fun vs H Q E h => ?_) (fun cdv A outer s H vs Q E hr h => ?_)
  · obtain ⟨p, dx, a, b, e, c, d, rfl, _⟩ := h.ex
    rfl
  · obtain ⟨p, dx, a, b, e, c, d, rfl, hp, ha, hb, he, hc, hd, k, kE⟩ := h.ex
    refine ⟨_, (pss_cons (ps_expr (pe_clsfn T.q_Behind___init__ (ok_Slowing_Behind_init T) (hr.mono (by decide)) rfl T.g_Behind bd_Slowing_Behind_init_5 hv_bd_Slowing_Behind_init_5 (passes_call (takes_of rfl rfl rfl rfl) (fun _ _ _ _ z => z)) (pa_cons (pv 0) (pa_cons (pv 1) (pa_cons (pv 2) (pa_cons (pv 4) (pa_cons (pv 5) pa_nil)))))))
      (pss_one (ps_fldN (pv 0) (pe_call (ok_checked T) (hr.mono (by decide)) rfl T.g_checked T.d_checked.kp (b_checked T) .nil (passes_call (takes_of rfl rfl rfl rfl) (fun _ _ _ _ z => z)) (pa_cons (pv 3) (pa_cons (pv 2) pa_nil))) rfl))), ?_⟩
    walk_at "rd"
    refine ⟨.go, p, dx, a, b, c, d, rfl, hp, ha, hb, hc, hd, fun g H1 k1 e1 => ?_, fun g H1 k1 => kE (fun z => g z.1) H1 k1⟩
    obtain ⟨ga, gd, ⟨i, rfl, hi⟩, gc⟩ := id g
    walk_at "rd"
    refine ⟨.go, e, i, rfl, he.keep k1 hp, fun ge => ?_, fun ge => kE (fun ⟨_, g2, j, e2, e3, h⟩ => ?_) H1 k1⟩
    · refine ⟨_, rfl, p, _, dx, _, rfl, e1, T.c_Slowing, T.n_Slowing_most, few (by kernel_rfl), fun H2 k2 e2 => ?_⟩
      obtain ⟨j, rfl, hj⟩ := ge
      refine k ⟨g, i, j, rfl, rfl, hj⟩ H2 (k1.trans k2) ?_
      rw [e2]
      exact congrArg (fun l => some (HO.ins (He.ga K "Slowing") dx l)) (by kernel_rfl)
    · have e4 := V.int_inj.mp e2
      exact ge ⟨j, e3, by omega⟩
theorem bn_Slowing_init_4 (T : Txt K mg) : ∃ ds, Vals (([.int 0, .non] : List V).drop 0) ds ∧ Binds K (fdOf K ("Slowing", some "__init__")) ["self", "start", "gap", "most", "wide", "many"] ds := T.d_Slowing_init.binds1 4 0 (by simp) rfl fun _ _ _ _ _ _ _ us its h1 h2 => match us, its, h1, h2 with | [_, _, _, _], [_, _], _, _ => ⟨_, rfl, rfl⟩
theorem bn_Slowing_init_6 (T : Txt K mg) : ∃ ds, Vals (([.int 0, .non] : List V).drop 2) ds ∧ Binds K (fdOf K ("Slowing", some "__init__")) ["self", "start", "gap", "most", "wide", "many"] ds := T.d_Slowing_init.binds1 6 2 (by simp) rfl fun _ _ _ _ _ _ _ us its h1 h2 => match us, its, h1, h2 with | [_, _, _, _, _, _], [_, _], _, _ => ⟨_, rfl, rfl⟩
theorem sc_whole : FnScope ["_law_found"] ["_law_found"] (defScope s_whole) := ⟨rfl, rfl, rfl, by decide +kernel, rfl, by decide +kernel, by decide +kernel⟩
structure sp_whole (K : PySem.W.Frag) (vs : List V) (H : Hp) (Q : VK) (E : XK) : Prop where
  tt : Go
  ex : ∃ (x : V), vs = [x] ∧ Base K H x ∧ Q (.bl (isI x)) H
set_option maxHeartbeats 4000000 in
theorem ok_whole (T : Txt K mg) : FnOk P w K mg base CX0 1 (He.fAd K ("_law_whole", none)) (fdOf K ("_law_whole", none)) ["_law_found"] (sp_whole K) := by
  refine T.d_whole.ok sc_whole (fun vs H Q E h => ?_) (fun cdv A outer s H vs Q E hr h => ?_)
  · obtain ⟨x, rfl, _⟩ := h.ex
    rfl
  · obtain ⟨x, rfl, hb, k⟩ := h.ex
    refine ⟨_, (PSs.nox (pss_one (ps_ret (pe_and (pe_callB call_isi (by rfl) T.z_isinstance (by decide +kernel) (pa_cons (pv 0) (pa_cons (pe_bltn (v := .ty "int") (by rfl) T.z_int (by decide +kernel) rfl) pa_nil))) (pe_one (pe_not (pe_callB call_isi (by rfl) T.z_isinstance (by decide +kernel) (pa_cons (pv 0) (pa_cons (pe_bltn (v := .ty "bool") (by rfl) T.z_bool (by decide +kernel) rfl) pa_nil))))))))), ?_⟩
    obtain ⟨t, hty, ht⟩ := hb
    rw [← tyx_isI hty] at k
    refine ⟨_, rfl, _, _, _, _, _, rfl, .ty _, hty, kit_int ht, _, rfl, ?_⟩
    refine iteE (kit_or ht) ?_
    refine iteB (fun e => ?_) (fun e => ?_)
    · refine ⟨_, rfl, _, _, _, _, _, rfl, .ty _, hty, kit_bool ht, _, rfl, ?_⟩
      rw [kit_nb ht e] at k
      exact k
    · rw [kit_ni ht e] at k
      exact k
local macro_rules | `(tactic| walk_at "rd1") => `(tactic| refine sp_whole.mk .go ⟨_, rfl, base_int, ?_⟩)
theorem b_whole (T : Txt K mg) : Binds K (fdOf K ("_law_whole", none)) ["_law_found"] [] := T.d_whole.bindsN fun _ _ _ _ _ _ us hl => match us, hl with | [_], _ => rfl
theorem sc_is_stretch : FnScope ["_law_found", "_law_due"] ["_law_found", "_law_due"] (defScope s_is_stretch) := ⟨rfl, rfl, rfl, by decide +kernel, rfl, by decide +kernel, by decide +kernel⟩
structure sp_is_stretch (K : PySem.W.Frag) (vs : List V) (H : Hp) (Q : VK) (E : XK) : Prop where
  tt : Go
  ex : ∃ (f d : Addr) (a b c e : Int), vs = [.ref f, .ref d] ∧ H f = some (.tup [.int a, .int b]) ∧ H d = some (.tup [.int c, .int e]) ∧ Q (.bl (decide (a = c ∧ b = e))) H
set_option maxHeartbeats 4000000 in
theorem ok_is_stretch (T : Txt K mg) : FnOk P w K mg base CX0 2 (He.fAd K ("_law_is_stretch", none)) (fdOf K ("_law_is_stretch", none)) ["_law_found", "_law_due"] (sp_is_stretch K) := by
  refine T.d_is_stretch.ok sc_is_stretch (fun vs H Q E h => ?_) (fun cdv A outer s H vs Q E hr h => ?_)
  · obtain ⟨f, d, a, b, c, e, rfl, _⟩ := h.ex
    rfl
  · obtain ⟨f, d, a, b, c, e, rfl, hf, hd, k⟩ := h.ex
    refine ⟨_, (PSs.nox (pss_cons (ps_if (PW.pt (pw_or (pt_not (pt_val (pe_callB call_isi (by rfl) T.z_isinstance (by decide +kernel) (pa_cons (pv 0) (pa_cons (pe_bltn (v := .ty "tuple") (by rfl) T.z_tuple (by decide +kernel) rfl) pa_nil))))) (pw_or1 (pt_cmpR op_ne (pe_callB call_len_seq (by rfl) T.z_len (by decide +kernel) (pa_cons (pv 0) pa_nil)) pe_int (nomark _))))) (pss_one (ps_ret pe_bl)) pss_nil)
      (pss_one (ps_ret (pe_and (pe_call (ok_whole T) (hr.mono (by decide)) rfl T.g_whole T.d_whole.kp (b_whole T) .nil pass0 (pa_cons (pe_ix ix_tup (pv 0) pe_int (fun _ _ => rfl)) pa_nil)) (pe_and (pe_call (ok_whole T) (hr.mono (by decide)) rfl T.g_whole T.d_whole.kp (b_whole T) .nil pass0 (pa_cons (pe_ix ix_tup (pv 0) pe_int (fun _ _ => rfl)) pa_nil)) (pe_one (pe_cmpR (op_eqD hr.units) (pv 0) (pv 1) (nomark _))))))))), ?_⟩
    walk_at "rd"
    refine ⟨_, _, dp_ii hf, dp_ii hd, rfl, rfl, ?_⟩
    rw [eqv_ii]
    exact k
theorem b_is_stretch (T : Txt K mg) : Binds K (fdOf K ("_law_is_stretch", none)) ["_law_found", "_law_due"] [] := T.d_is_stretch.bindsN fun _ _ _ _ _ _ us hl => match us, hl with | [_, _], _ => rfl
theorem sc_Slowing_begin : FnScope ["self"] ["self"] (defScope s_Slowing_begin) := ⟨rfl, rfl, rfl, by decide +kernel, rfl, by decide +kernel, by decide +kernel⟩
structure sp_Slowing_begin (K : PySem.W.Frag) (vs : List V) (H : Hp) (Q : VK) (E : XK) : Prop where
  tt : Go
  ex : ∃ (p dx : Addr) (fs : List (Str × V)) (s w : Int), vs = [.ref p] ∧ H p = some (.ins (He.ga K "Slowing") dx fs) ∧ fs.lookup ("start" : Str) = some (.int s) ∧ fs.lookup ("wide" : Str) = some (.int w) ∧ New H (.tup [.int s, .int (s + w)]) Q
set_option maxHeartbeats 4000000 in
theorem ok_Slowing_begin (T : Txt K mg) : FnOk P w K mg base CX0 1 (He.fAd K ("Slowing", some "begin")) (fdOf K ("Slowing", some "begin")) ["self"] (sp_Slowing_begin K) := by
  refine T.d_Slowing_begin.ok sc_Slowing_begin (fun vs H Q E h => ?_) (fun cdv A outer s H vs Q E hr h => ?_)
  · obtain ⟨p, dx, fs, s, w, rfl, _⟩ := h.ex
    rfl
  · obtain ⟨p, dx, fs, s, w, rfl, hp, h1, h2, k⟩ := h.ex
    refine ⟨_, (PSs.nox (pss_one (ps_ret (pe_tupN (pa_cons (pe_fld (pv 0) rfl) (pa_cons (pe_op op_add (pe_fld (pv 0) rfl) (pe_fld (pv 0) rfl)) pa_nil)))))), ?_⟩
    walk_at "rd"
    refine ⟨p, _, dx, _, _, rfl, hp, T.c_Slowing, T.n_Slowing_start, h1, ?_⟩
    walk_at "rd"
    refine ⟨p, _, dx, _, _, rfl, hp, T.c_Slowing, T.n_Slowing_start, h1, ?_⟩
    walk_at "rd"
    refine ⟨p, _, dx, _, _, rfl, hp, T.c_Slowing, T.n_Slowing_wide, h2, ?_⟩
    walk_at "rd"
    exact k
theorem b_Slowing_begin (T : Txt K mg) : Binds K (fdOf K ("Slowing", some "begin")) ["self"] [] := T.d_Slowing_begin.bindsN fun _ _ _ _ _ _ us hl => match us, hl with | [_], _ => rfl
theorem sc_Slowing_ended : FnScope ["self", "number"] ["self", "number"] (defScope s_Slowing_ended) := ⟨rfl, rfl, rfl, by decide +kernel, rfl, by decide +kernel, by decide +kernel⟩
structure sp_Slowing_ended (K : PySem.W.Frag) (vs : List V) (H : Hp) (Q : VK) (E : XK) : Prop where
  tt : Go
  ex : ∃ (p dx : Addr) (fs : List (Str × V)) (m : Option Int) (n : Int), vs = [.ref p, .int n] ∧ H p = some (.ins (He.ga K "Slowing") dx fs) ∧ fs.lookup ("many" : Str) = some (vO m) ∧ Q (.bl (endedM m n)) H
set_option maxHeartbeats 4000000 in
theorem ok_Slowing_ended (T : Txt K mg) : FnOk P w K mg base CX0 1 (He.fAd K ("Slowing", some "ended")) (fdOf K ("Slowing", some "ended")) ["self", "number"] (sp_Slowing_ended K) := by
  refine T.d_Slowing_ended.ok sc_Slowing_ended (fun vs H Q E h => ?_) (fun cdv A outer s H vs Q E hr h => ?_)
  · obtain ⟨p, dx, fs, m, n, rfl, _⟩ := h.ex
    rfl
  · obtain ⟨p, dx, fs, m, n, rfl, hp, hf, k⟩ := h.ex
    refine ⟨_, (PSs.nox (pss_one (ps_ret (pe_and (pe_cmpR op_notN (pe_fld (pv 0) rfl) pe_non (nomark _)) (pe_one (pe_cmpR op_ge (pv 1) (pe_fld (pv 0) rfl) (nomark _))))))), ?_⟩
    walk_at "rd"
    refine ⟨p, _, dx, _, _, rfl, hp, T.c_Slowing, T.n_Slowing_many, hf, ?_⟩
    walk_at "rd"
    cases m with
    | none =>
      walk_at "rd"
      exact k
    | some i =>
      walk_at "rd"
      refine ⟨p, _, dx, _, _, rfl, hp, T.c_Slowing, T.n_Slowing_many, hf, ?_⟩
      walk_at "rd"
      exact k
theorem b_Slowing_ended (T : Txt K mg) : Binds K (fdOf K ("Slowing", some "ended")) ["self", "number"] [] := T.d_Slowing_ended.bindsN fun _ _ _ _ _ _ us hl => match us, hl with | [_, _], _ => rfl
theorem sc_Slowing_gap_at : FnScope ["self", "number", "gap"] ["self", "number"] (defScope s_Slowing_gap_at) := ⟨rfl, rfl, rfl, by decide +kernel, rfl, by decide +kernel, by decide +kernel⟩
structure sp_Slowing_gap_at (K : PySem.W.Frag) (vs : List V) (H : Hp) (Q : VK) (E : XK) : Prop where
  tt : Go
  ex : ∃ (p dx : Addr) (m : V) (s g w mo n : Int), vs = [.ref p, .int n] ∧ H p = some (.ins (He.ga K "Slowing") dx (fl_Slowing m (.int s) (.int g) (.int w) (.int mo))) ∧ 1 ≤ g ∧ g ≤ mo ∧ mo < 2 ^ 240 ∧ 1 ≤ n ∧ Q (.int (iter mo (n - 1).toNat g)) H
set_option maxHeartbeats 4000000 in
theorem ok_Slowing_gap_at (T : Txt K mg) : FnOk P w K mg base CX0 1 (He.fAd K ("Slowing", some "gap_at")) (fdOf K ("Slowing", some "gap_at")) ["self", "number"] (sp_Slowing_gap_at K) := by
  refine T.d_Slowing_gap_at.ok sc_Slowing_gap_at (fun vs H Q E h => ?_) (fun cdv A outer s H vs Q E hr h => ?_)
  · obtain ⟨p, dx, m, s, g, w, mo, n, rfl, _⟩ := h.ex
    rfl
  · obtain ⟨p, dx, m, s, g, w, mo, n, rfl, hp, h1, h2, h3, hn, k⟩ := h.ex
    refine ⟨_, (PSs.nox (pss_cons (ps_set (i := 2) sc_Slowing_gap_at.nd rfl (Or.inl rfl) (pe_fld (pv 0) rfl))
      (pss_cons (ps_while PassesOwn.never (pt_monoT (PW.pt (pw_and (pt_cmpR op_gt (pv 1) pe_int (nomark _)) (pw_and1 (pt_cmpR op_lt (pv 2) (pe_fld (pv 0) rfl) (nomark _)))))) (pss_cons (ps_set (i := 2) sc_Slowing_gap_at.nd rfl (Or.inl rfl) (pe_callB (call_min2 rfl) (by rfl) T.z_min (by decide +kernel) (pa_cons (pe_op op_mul pe_int (pv 2)) (pa_cons (pe_fld (pv 0) rfl) pa_nil))))
      (pss_one (ps_set (i := 1) sc_Slowing_gap_at.nd rfl (Or.inl rfl) (pe_op op_sub (pv 1) pe_int)))))
      (pss_one (ps_ret (pv 2)))))), ?_⟩
    walk_at "rd"
    refine ⟨p, _, dx, _, _, rfl, hp, T.c_Slowing, T.n_Slowing_gap, lk_Slowing_gap, ?_⟩
    refine while_w (fun σ H' => ∃ q c, σ = [some (.ref p), some (.int q), some (.int c)] ∧ H' = H ∧ 1 ≤ q ∧ 1 ≤ c ∧ c ≤ mo ∧ iter mo (q - 1).toNat c = iter mo (n - 1).toNat g) (fun σ _ => match σ with
      | [_, some (.int q), _] => q.toNat
      | _ => 0) ⟨n, g, rfl, rfl, hn, h1, h2, rfl⟩ ?_
    rintro σ H' ⟨q, c, rfl, rfl, hq, hc, hm, e⟩
    walk_at "rd"
    refine iteD (fun l1 => ?_) (fun l1 => ?_)
    · walk_at "rd"
      refine ⟨p, _, dx, _, _, rfl, hp, T.c_Slowing, T.n_Slowing_most, lk_Slowing_most, ?_⟩
      walk_at "rd"
      refine iteD (fun l2 => ?_) (fun l2 => ?_)
      · walk_at "rd"
        refine ⟨p, _, dx, _, _, rfl, hp, T.c_Slowing, T.n_Slowing_most, lk_Slowing_most, ?_⟩
        walk_at "rd"
        have b := nxt_bd hc hm
        refine ⟨⟨q - 1, nxt mo c, rfl, rfl, by omega, by omega, b.2, ?_⟩, ?_⟩
        · rw [← e, show (q - 1).toNat = (q - 1 - 1).toNat + 1 by omega] <;> rfl
        · show (q - 1).toNat < q.toNat
          omega
      · walk_at "rd"
        have e2 : c = mo := by omega
        subst e2
        rw [iter_fix (by omega)] at e
        rw [← e] at k
        exact k
    · walk_at "rd"
      rw [show (q - 1).toNat = 0 by omega] at e
      rw [← e] at k
      exact k
theorem b_Slowing_gap_at (T : Txt K mg) : Binds K (fdOf K ("Slowing", some "gap_at")) ["self", "number"] [] := T.d_Slowing_gap_at.bindsN fun _ _ _ _ _ _ us hl => match us, hl with | [_, _], _ => rfl
theorem sc_Slowing_next_of : FnScope ["self", "number", "settled", "first"] ["self", "number", "settled"] (defScope s_Slowing_next_of) := ⟨rfl, rfl, rfl, by decide +kernel, rfl, by decide +kernel, by decide +kernel⟩
structure sp_Slowing_next_of (K : PySem.W.Frag) (vs : List V) (H : Hp) (Q : VK) (E : XK) : Prop where
  tt : Go
  ex : ∃ (p dx : Addr) (m : V) (s g w mo n z : Int), vs = [.ref p, .int n, .int z] ∧ H p = some (.ins (He.ga K "Slowing") dx (fl_Slowing m (.int s) (.int g) (.int w) (.int mo))) ∧ 1 ≤ g ∧ g ≤ mo ∧ mo < 2 ^ 240 ∧ 0 ≤ n ∧
    New H (.tup [.int (z + iter mo n.toNat g), .int (z + iter mo n.toNat g + w)]) Q
set_option maxHeartbeats 4000000 in
theorem ok_Slowing_next_of (T : Txt K mg) : FnOk P w K mg base CX0 2 (He.fAd K ("Slowing", some "next_of")) (fdOf K ("Slowing", some "next_of")) ["self", "number", "settled"] (sp_Slowing_next_of K) := by
  refine T.d_Slowing_next_of.ok sc_Slowing_next_of (fun vs H Q E h => ?_) (fun cdv A outer s H vs Q E hr h => ?_)
  · obtain ⟨p, dx, m, s, g, w, mo, n, z, rfl, _⟩ := h.ex
    rfl
  · obtain ⟨p, dx, m, s, g, w, mo, n, z, rfl, hp, h1, h2, h3, hn, k⟩ := h.ex
    refine ⟨_, (PSs.nox (pss_cons (ps_set (i := 3) sc_Slowing_next_of.nd rfl (Or.inl rfl) (pe_op op_add (pv 2) (pe_meth (pv 0) T.c_Slowing T.m_Slowing_gap_at (ok_Slowing_gap_at T) (hr.mono (by decide)) (b_Slowing_gap_at T) .nil pass0 (pa_cons (pe_op op_add (pv 1) pe_int) pa_nil))))
      (pss_one (ps_ret (pe_tupN (pa_cons (pv 3) (pa_cons (pe_op op_add (pv 3) (pe_fld (pv 0) rfl)) pa_nil))))))), ?_⟩
    walk_at "rd"
    refine ⟨p, dx, _, rfl, hp, nl_Slowing_gap_at, ?_⟩
    walk_at "rd"
    refine ⟨.go, p, dx, _, _, g, w, mo, n + 1, rfl, hp, h1, h2, h3, by omega, ?_⟩
    rw [show (n + 1 - 1).toNat = n.toNat by omega]
    walk_at "rd"
    walk_at "Slowing.wide"
    walk_at "rd"
    exact k
theorem b_Slowing_next_of (T : Txt K mg) : Binds K (fdOf K ("Slowing", some "next_of")) ["self", "number", "settled"] [] := T.d_Slowing_next_of.bindsN fun _ _ _ _ _ _ us hl => match us, hl with | [_, _, _], _ => rfl
theorem sc_Slowing_follow : FnScope ["self", "number", "settled"] ["self", "number", "settled"] (defScope s_Slowing_follow) := ⟨rfl, rfl, rfl, by decide +kernel, rfl, by decide +kernel, by decide +kernel⟩
structure sp_Slowing_follow (K : PySem.W.Frag) (vs : List V) (H : Hp) (Q : VK) (E : XK) : Prop where
  tt : Go
  ex : ∃ (p dx : Addr) (m : Option Int) (s g w mo n z : Int), vs = [.ref p, .int n, .int z] ∧ H p = some (.ins (He.ga K "Slowing") dx (fl_Slowing (vO m) (.int s) (.int g) (.int w) (.int mo))) ∧ 1 ≤ g ∧ g ≤ mo ∧ mo < 2 ^ 240 ∧ 0 ≤ n ∧
    (endedM m (n + 1) = false → New H (.tup [.int (z + iter mo n.toNat g), .int (z + iter mo n.toNat g + w)]) Q) ∧ (endedM m (n + 1) = true → Q .non H)
set_option maxHeartbeats 4000000 in
theorem ok_Slowing_follow (T : Txt K mg) : FnOk P w K mg base CX0 3 (He.fAd K ("Slowing", some "follow")) (fdOf K ("Slowing", some "follow")) ["self", "number", "settled"] (sp_Slowing_follow K) := by
  refine T.d_Slowing_follow.ok sc_Slowing_follow (fun vs H Q E h => ?_) (fun cdv A outer s H vs Q E hr h => ?_)
  · obtain ⟨p, dx, m, s, g, w, mo, n, z, rfl, _⟩ := h.ex
    rfl
  · obtain ⟨p, dx, m, s, g, w, mo, n, z, rfl, hp, h1, h2, h3, hn, k, kN⟩ := h.ex
    refine ⟨_, (PSs.nox (pss_cons (ps_if (pt_val (pe_meth (pv 0) T.c_Slowing T.m_Slowing_ended (ok_Slowing_ended T) (hr.mono (by decide)) (b_Slowing_ended T) .nil pass0 (pa_cons (pe_op op_add (pv 1) pe_int) pa_nil))) (pss_one (ps_ret pe_non)) pss_nil)
      (pss_one (ps_ret (pe_meth (pv 0) T.c_Slowing T.m_Slowing_next_of (ok_Slowing_next_of T) (hr.mono (by decide)) (b_Slowing_next_of T) .nil pass0 (pa_cons (pv 1) (pa_cons (pv 2) pa_nil))))))), ?_⟩
    walk_at "rd"
    refine ⟨p, dx, _, rfl, hp, nl_Slowing_ended, ?_⟩
    walk_at "rd"
    refine ⟨.go, p, dx, _, m, n + 1, rfl, hp, lk_Slowing_many, ?_⟩
    walk_at "rd"
    refine iteB (fun h => ?_) (fun h => ?_)
    · exact kN h
    · walk_at "rd"
      refine ⟨p, dx, _, rfl, hp, nl_Slowing_next_of, ?_⟩
      walk_at "rd"
      exact ⟨.go, p, dx, _, s, g, w, mo, n, z, rfl, hp, h1, h2, h3, hn, k h⟩
theorem b_Slowing_follow (T : Txt K mg) : Binds K (fdOf K ("Slowing", some "follow")) ["self", "number", "settled"] [] := T.d_Slowing_follow.bindsN fun _ _ _ _ _ _ us hl => match us, hl with | [_, _, _], _ => rfl
theorem sc_gap : FnScope ["_law_rule", "_law_number_here", "_law_settled", "_law_wide", "_law_found"] ["_law_rule", "_law_number_here", "_law_settled", "_law_wide"] (defScope s_gap) := ⟨rfl, rfl, rfl, by decide +kernel, rfl, by decide +kernel, by decide +kernel⟩
structure sp_gap (K : PySem.W.Frag) (vs : List V) (H : Hp) (Q : VK) (E : XK) : Prop where
  tt : Go
  ex : ∃ (p dx : Addr) (m : Option Int) (s g w mo n z : Int), vs = [.ref p, .int n, .int z, .int w] ∧ H p = some (.ins (He.ga K "Slowing") dx (fl_Slowing (vO m) (.int s) (.int g) (.int w) (.int mo))) ∧ 1 ≤ g ∧ g ≤ mo ∧ mo < 2 ^ 240 ∧ 0 ≤ n ∧
    endedM m (n + 1) = false ∧ ∀ H', Same H H' → Q (.int (iter mo n.toNat g)) H'
set_option maxHeartbeats 4000000 in
theorem ok_gap (T : Txt K mg) : FnOk P w K mg base CX0 4 (He.fAd K ("_law_gap", none)) (fdOf K ("_law_gap", none)) ["_law_rule", "_law_number_here", "_law_settled", "_law_wide"] (sp_gap K) := by
  refine T.d_gap.ok sc_gap (fun vs H Q E h => ?_) (fun cdv A outer s H vs Q E hr h => ?_)
  · obtain ⟨p, dx, m, s, g, w, mo, n, z, rfl, _⟩ := h.ex
    rfl
  · obtain ⟨p, dx, m, s, g, w, mo, n, z, rfl, hp, h1, h2, h3, hn, hm, k⟩ := h.ex
    refine ⟨_, (PSs.nox (pss_cons (ps_set (i := 4) sc_gap.nd rfl (Or.inl rfl) (pe_meth (pv 0) T.c_Slowing T.m_Slowing_follow (ok_Slowing_follow T) (hr.mono (by decide)) (b_Slowing_follow T) .nil pass0 (pa_cons (pv 1) (pa_cons (pv 2) pa_nil))))
      (pss_cons (ps_if (PW.pt (pw_or (pt_not (pt_val (pe_callB call_isi (by rfl) T.z_isinstance (by decide +kernel) (pa_cons (pv 4) (pa_cons (pe_bltn (v := .ty "tuple") (by rfl) T.z_tuple (by decide +kernel) rfl) pa_nil))))) (pw_or1 (pt_cmpR op_ne (pe_callB call_len_seq (by rfl) T.z_len (by decide +kernel) (pa_cons (pv 4) pa_nil)) pe_int (nomark _))))) (pss_one (ps_ret pe_int)) pss_nil)
      (pss_cons (ps_if (PW.pt (pw_or (pt_not (pt_val (pe_call (ok_whole T) (hr.mono (by decide)) rfl T.g_whole T.d_whole.kp (b_whole T) .nil pass0 (pa_cons (pe_ix ix_tup (pv 4) pe_int (fun _ _ => rfl)) pa_nil)))) (pw_or1 (pt_cmpR op_ne (pe_ix ix_tup (pv 4) pe_int (fun _ _ => rfl)) (pe_op op_add (pe_ix ix_tup (pv 4) pe_int (fun _ _ => rfl)) (pv 3)) (nomark _))))) (pss_one (ps_ret pe_int)) pss_nil)
      (pss_one (ps_ret (pe_op op_sub (pe_ix ix_tup (pv 4) pe_int (fun _ _ => rfl)) (pv 2)))))))), ?_⟩
    walk_at "rd"
    refine ⟨p, dx, _, rfl, hp, nl_Slowing_follow, ?_⟩
    walk_at "rd"
    refine ⟨.go, p, dx, m, s, g, w, mo, n, z, rfl, hp, h1, h2, h3, hn, fun _ t H1 ht s1 e1 => ?_, fun h => by rw [hm] at h; cases h⟩
    walk_at "rd"
    refine iteE (c := false) (by simp) ?_
    walk_at "rd"
    show Q (.int (z + iter mo n.toNat g - z)) H1
    rw [show z + iter mo n.toNat g - z = iter mo n.toNat g by omega]
    exact k _ s1
theorem b_gap (T : Txt K mg) : Binds K (fdOf K ("_law_gap", none)) ["_law_rule", "_law_number_here", "_law_settled", "_law_wide"] [] := T.d_gap.bindsN fun _ _ _ _ _ _ us hl => match us, hl with | [_, _, _, _], _ => rfl
theorem sc_law : FnScope ["_law_script", "_law_start", "_law_gap_here", "_law_most_here", "_law_wide", "_law_number_here", "_law_many", "_law_rule", "_law_settled", "_law_k", "_law_ahead"] ["_law_script"] (defScope s_law) := ⟨rfl, rfl, rfl, by decide +kernel, rfl, by decide +kernel, by decide +kernel⟩

set_option maxHeartbeats 4000000 in
theorem ok_law (T : Txt K mg) : FnOk P w K mg base CX0 7 (He.fAd K ("law", none)) (fdOf K ("law", none)) ["_law_script"] (sp_law K) := by
  obtain ⟨ds_bd_Slowing_init_4, hv_bd_Slowing_init_4, bd_Slowing_init_4⟩ := bn_Slowing_init_4 T
  obtain ⟨ds_bd_Slowing_init_6, hv_bd_Slowing_init_6, bd_Slowing_init_6⟩ := bn_Slowing_init_6 T
  refine T.d_law.ok sc_law (fun vs H Q E h => ?_) (fun cdv A outer s H vs Q E hr h => ?_)
  · obtain ⟨a, ns, rfl, _⟩ := h.ex
    rfl
  · obtain ⟨a, ns, rfl, hS, hlen, hbits, hO, k⟩ := h.ex
    refine ⟨_, (PSs.nox (pss_cons (ps_set (i := 1) sc_law.nd rfl (Or.inl rfl) (pe_call (ok_number T) (hr.mono (by decide)) rfl T.g_number T.d_number.kp (b_number T) .nil pass0 (pa_cons (pe_call (ok_cell_at T) (hr.mono (by decide)) rfl T.g_cell_at T.d_cell_at.kp (b_cell_at T) .nil pass0 (pa_cons (pv 0) (pa_cons pe_int pa_nil))) pa_nil)))
      (pss_cons (ps_set (i := 2) sc_law.nd rfl (Or.inl rfl) (pe_op op_add pe_int (pe_call (ok_number T) (hr.mono (by decide)) rfl T.g_number T.d_number.kp (b_number T) .nil pass0 (pa_cons (pe_call (ok_cell_at T) (hr.mono (by decide)) rfl T.g_cell_at T.d_cell_at.kp (b_cell_at T) .nil pass0 (pa_cons (pv 0) (pa_cons pe_int pa_nil))) pa_nil))))
      (pss_cons (ps_set (i := 3) sc_law.nd rfl (Or.inl rfl) (pe_call (ok_most T) (hr.mono (by decide)) rfl T.g_most T.d_most.kp (b_most T) .nil pass0 (pa_cons (pv 2) (pa_cons (pe_call (ok_cell_at T) (hr.mono (by decide)) rfl T.g_cell_at T.d_cell_at.kp (b_cell_at T) .nil pass0 (pa_cons (pv 0) (pa_cons pe_int pa_nil))) pa_nil))))
      (pss_cons (ps_set (i := 4) sc_law.nd rfl (Or.inl rfl) (pe_call (ok_number T) (hr.mono (by decide)) rfl T.g_number T.d_number.kp (b_number T) .nil pass0 (pa_cons (pe_call (ok_cell_at T) (hr.mono (by decide)) rfl T.g_cell_at T.d_cell_at.kp (b_cell_at T) .nil pass0 (pa_cons (pv 0) (pa_cons pe_int pa_nil))) pa_nil)))
      (pss_cons (ps_set (i := 5) sc_law.nd rfl (Or.inl rfl) (pe_op op_add pe_int (pe_call (ok_number T) (hr.mono (by decide)) rfl T.g_number T.d_number.kp (b_number T) .nil pass0 (pa_cons (pe_call (ok_cell_at T) (hr.mono (by decide)) rfl T.g_cell_at T.d_cell_at.kp (b_cell_at T) .nil pass0 (pa_cons (pv 0) (pa_cons pe_int pa_nil))) pa_nil))))
      (pss_cons (ps_set (i := 6) sc_law.nd rfl (Or.inl rfl) (pe_op op_add (pe_op op_add (pv 5) pe_int) (pe_call (ok_number T) (hr.mono (by decide)) rfl T.g_number T.d_number.kp (b_number T) .nil pass0 (pa_cons (pe_call (ok_cell_at T) (hr.mono (by decide)) rfl T.g_cell_at T.d_cell_at.kp (b_cell_at T) .nil pass0 (pa_cons (pv 0) (pa_cons pe_int pa_nil))) pa_nil))))
      (pss_cons (ps_cut (ps_if (pt_cmpR op_eq (pe_op op_mod (pe_call (ok_cell_at T) (hr.mono (by decide)) rfl T.g_cell_at T.d_cell_at.kp (b_cell_at T) .nil pass0 (pa_cons (pv 0) (pa_cons pe_int pa_nil))) pe_int) pe_int (nomark _)) (pss_cons (ps_set (i := 4) sc_law.nd rfl (Or.inl rfl) pe_int)
      (pss_cons (ps_set (i := 6) sc_law.nd rfl (Or.inl rfl) pe_non)
      (pss_one (ps_set (i := 7) sc_law.nd rfl (Or.inl rfl) (pe_makeN T.k_Slowing (ok_Slowing_init T) (hr.mono (by decide)) rfl T.g_Slowing bd_Slowing_init_4 hv_bd_Slowing_init_4 passL (pa_cons (pv 1) (pa_cons (pv 2) (pa_cons (pv 3) pa_nil)))))))) (pss_one (ps_set (i := 7) sc_law.nd rfl (Or.inl rfl) (pe_makeN T.k_Slowing (ok_Slowing_init T) (hr.mono (by decide)) rfl T.g_Slowing bd_Slowing_init_6 hv_bd_Slowing_init_6 passL (pa_cons (pv 1) (pa_cons (pv 2) (pa_cons (pv 3) (pa_cons (pv 4) (pa_cons (pv 6) pa_nil))))))))))
      (pss_cons (ps_set (i := 8) sc_law.nd rfl (Or.inl rfl) (pe_op op_sub (pe_call (ok_number T) (hr.mono (by decide)) rfl T.g_number T.d_number.kp (b_number T) .nil pass0 (pa_cons (pe_call (ok_cell_at T) (hr.mono (by decide)) rfl T.g_cell_at T.d_cell_at.kp (b_cell_at T) .nil pass0 (pa_cons (pv 0) (pa_cons pe_int pa_nil))) pa_nil)) (pe_call (ok_number T) (hr.mono (by decide)) rfl T.g_number T.d_number.kp (b_number T) .nil pass0 (pa_cons (pe_call (ok_cell_at T) (hr.mono (by decide)) rfl T.g_cell_at T.d_cell_at.kp (b_cell_at T) .nil pass0 (pa_cons (pv 0) (pa_cons pe_int pa_nil))) pa_nil))))
      (pss_cons (ps_for PassesOwn.never rfl (pi_range1 (by rfl) T.z_range (pa_cons pe_int pa_nil)) (pg_name (i := 9) sc_law.nd rfl (Or.inl rfl)) (pss_cons (ps_if (PW.pt (pw_or (pt_not (pt_val (pe_call (ok_is_stretch T) (hr.mono (by decide)) rfl T.g_is_stretch T.d_is_stretch.kp (b_is_stretch T) .nil pass0 (pa_cons (pe_meth0 (pv 7) T.c_Slowing T.m_Slowing_begin (ok_Slowing_begin T) (hr.mono (by decide)) (b_Slowing_begin T) .nil pass0) (pa_cons (pe_tupN (pa_cons (pv 1) (pa_cons (pe_op op_add (pv 1) (pv 4)) pa_nil))) pa_nil))))) (pw_or1 (pt_cmpR op_ne (pe_fld (pv 7) rfl) (pv 6) (nomark _))))) (pss_one (ps_ret pe_bl)) pss_nil)
      (pss_cons (ps_if (pt_cmpR op_ne (pe_call (ok_gap T) (hr.mono (by decide)) rfl T.g_gap T.d_gap.kp (b_gap T) .nil pass0 (pa_cons (pv 7) (pa_cons pe_int (pa_cons (pe_op op_add (pv 8) (pv 9)) (pa_cons (pv 4) pa_nil))))) (pv 2) (nomark _)) (pss_one (ps_ret pe_bl)) pss_nil)
      (pss_cons (ps_set (i := 10) sc_law.nd rfl (Or.inl rfl) (pe_call (ok_gap T) (hr.mono (by decide)) rfl T.g_gap T.d_gap.kp (b_gap T) .nil pass0 (pa_cons (pv 7) (pa_cons (pe_op op_sub (pv 5) pe_int) (pa_cons (pv 8) (pa_cons (pv 4) pa_nil))))))
      (pss_cons (ps_if (pt_cmpR op_lt (pv 10) pe_int (nomark _)) (pss_one (ps_ret pe_bl)) pss_nil)
      (pss_one (ps_if (PW.pt (pw_and (pt_cmpR op_notN (pv 6) pe_non (nomark _)) (pw_and1 (pt_cmpR op_eq (pe_op op_add (pv 5) pe_int) (pv 6) (nomark _))))) (pss_one (ps_if (pt_cmpR op_notN (pe_meth (pv 7) T.c_Slowing T.m_Slowing_follow (ok_Slowing_follow T) (hr.mono (by decide)) (b_Slowing_follow T) .nil pass0 (pa_cons (pv 5) (pa_cons (pv 8) pa_nil))) pe_non (nomark _)) (pss_one (ps_ret pe_bl)) pss_nil)) (pss_one (ps_if (pt_cmpR op_ne (pe_call (ok_gap T) (hr.mono (by decide)) rfl T.g_gap T.d_gap.kp (b_gap T) .nil pass0 (pa_cons (pv 7) (pa_cons (pv 5) (pa_cons (pe_op op_sub (pv 8) (pv 9)) (pa_cons (pv 4) pa_nil))))) (pe_callB (call_min2 rfl) (by rfl) T.z_min (by decide +kernel) (pa_cons (pe_op op_mul pe_int (pv 10)) (pa_cons (pv 3) pa_nil))) (nomark _)) (pss_one (ps_ret pe_bl)) pss_nil)))))))))
      (pss_one (ps_ret (pe_and (pe_callB call_isi (by rfl) T.z_isinstance (by decide +kernel) (pa_cons (pv 7) (pa_cons (pe_glob (v := .ref (He.ga K "Behind")) (by rfl) T.g_Behind rfl) pa_nil))) (pe_one (pe_callB call_isi (by rfl) T.z_isinstance (by decide +kernel) (pa_cons (pv 7) (pa_cons (pe_glob (v := .ref (He.ga K "Rule")) (by rfl) T.g_Rule rfl) pa_nil))))))))))))))))), ?_⟩
    have hS0 := lnum_0 (cellAt ns 0)
    have hT0 := lnum_0 (cellAt ns 1)
    have hT1 := lnum_lt (cellAt ns 1)
    have hw0 := lnum_0 (cellAt ns 3)
    have hn0 := lnum_0 (cellAt ns 4)
    have hr0 := lnum_0 (cellAt ns 5)
    walk_at "rd"
    refine ⟨.go, _, _, rfl, by omega, by omega, fun mo hm1 hm2 => ?_⟩
    walk_at "rd"
    obtain ⟨S, eS⟩ : ∃ x, x = lnum (cellAt ns 0) := ⟨_, rfl⟩
    obtain ⟨G, eG⟩ : ∃ x, x = 1 + lnum (cellAt ns 1) := ⟨_, rfl⟩
    obtain ⟨N, eN⟩ : ∃ x, x = 1 + lnum (cellAt ns 4) := ⟨_, rfl⟩
    obtain ⟨M, eM⟩ : ∃ x, x = 1 + lnum (cellAt ns 4) + 1 + lnum (cellAt ns 5) := ⟨_, rfl⟩
    rw [← eG] at hm1
    have ga : ∀ (w : Int) (m : Option Int), 0 ≤ w → (∀ i, m = some i → 1 ≤ i) → slowOk (.int S) (.int G) (.int mo) (.int w) (vO m) := fun w m h1 hm => ⟨⟨⟨_, rfl, by omega⟩, goodM_vO hm, ⟨_, rfl, by omega⟩, ⟨_, rfl, h1⟩⟩, _, _, rfl, rfl, hm1⟩
    refine ⟨fun σ H' => ∃ (p dx : Addr) (w : Int) (m : Option Int), σ = [some (.ref a), some (.int S), some (.int G), some (.int mo), some (.int w), some (.int N), some (vO m), some (.ref p), none, none, none] ∧ SqL K H' a (ns.map V.int) ∧ (m = none ∨ m = some M) ∧
      H' p = some (.ins (He.ga K "Slowing") dx (fl_Slowing (vO m) (.int S) (.int G) (.int w) (.int mo))), ?_, ?_⟩
    · rintro σ H1 ⟨p, dx, w, m, rfl, hS, hmm, hp⟩
      walk_at "rd"
      obtain ⟨Z, eZ⟩ : ∃ x, x = lnum (cellAt ns 7) - lnum (cellAt ns 8) := ⟨_, rfl⟩
      refine ⟨by decide, by decide, for_range (lo := 0) (n := 2) (fun _ σ H' => ∃ u v, σ = [some (.ref a), some (.int S), some (.int G), some (.int mo), some (.int w), some (.int N), some (vO m), some (.ref p), some (.int Z), u, v] ∧ Same H1 H') ⟨none, none, by rw [eZ]; rfl, Same.refl H1⟩ ?_ ?_⟩
      · rintro j σ H2 hj ⟨u, v, rfl, s2⟩
        have hp2 := s2 _ _ hp
        have i1 := iter_bd (mo := mo) (N - 1).toNat (g := G) (by omega) hm1
        have i2 : iter mo N.toNat G = nxt mo (iter mo (N - 1).toNat G) := by
          rw [show N.toNat = (N - 1).toNat + 1 by omega]
          exact iter_succ _ _
        walk_at "rd"
        refine ⟨p, dx, _, rfl, hp2, nl_Slowing_begin, .go, p, dx, _, S, w, rfl, hp2, lk_Slowing_start, lk_Slowing_wide, fun t3 H10 ht3 s10 e10 => ?_⟩
        walk_at "rd"
        intro d3 H11 hd3 s11 e11
        refine ⟨.go, t3, d3, _, _, _, _, rfl, s11 _ _ e10, e11, ?_⟩
        walk_at "rd"
        refine iteE (c := false) (by simp) ?_
        have hp3 := s11 _ _ (s10 _ _ hp2)
        walk_at "rd"
        walk_at "Slowing.many"
        walk_at "rd"
        refine ⟨scal_vO m, ?_⟩
        walk_at "rd"
        refine iteE (c := false) (by simp) ?_
        walk_at "rd"
        have he1 : endedM m (0 + 1) = false := by
          rcases hmm with rfl | rfl
          · rfl
          · exact decide_eq_false (by omega)
        refine ⟨.go, p, dx, m, S, G, w, mo, 0, _, rfl, hp3, by omega, hm1, by omega, by omega, he1, fun H4 s4 => ?_⟩
        have hp4 := s4 _ _ hp3
        walk_at "rd"
        refine iteE (c := false) (by simp [iter]) ?_
        walk_at "rd"
        have he2 : endedM m (N - 1 + 1) = false := by
          rcases hmm with rfl | rfl
          · rfl
          · exact decide_eq_false (by omega)
        refine ⟨.go, p, dx, m, S, G, w, mo, N - 1, _, rfl, hp4, by omega, hm1, by omega, by omega, he2, fun H5 s5 => ?_⟩
        have hp5 := s5 _ _ hp4
        walk_at "rd"
        refine iteDF (by omega) ?_
        have s25 := s2.trans (s10.trans (s11.trans (s4.trans s5)))
        walk_at "rd"
        rcases hmm with rfl | rfl
        · walk_at "rd"
          refine ⟨.go, p, dx, none, S, G, w, mo, N, _, rfl, hp5, by omega, hm1, by omega, by omega, rfl, fun H6 s6 => ?_⟩
          walk_at "rd"
          refine iteE (c := false) (by rw [i2]; simp [nxt]) ?_
          walk_at "rd"
          exact s25.trans s6
        · refine iteE (c := true) (by simp [vO]) ?_
          walk_at "rd"
          refine iteB (fun c => ?_) (fun c => ?_)
          · have c2 : N + 1 = M := by simpa [vO] using c
            walk_at "rd"
            refine ⟨p, dx, _, rfl, hp5, nl_Slowing_follow, ?_⟩
            walk_at "rd"
            refine ⟨.go, p, dx, some M, S, G, w, mo, N, _, rfl, hp5, by omega, hm1, by omega, by omega, fun h => ?_, fun h => ?_⟩
            · have h2 : ¬ M ≤ N + 1 := of_decide_eq_false h
              omega
            · walk_at "rd"
              exact s25
          · have c2 : ¬ N + 1 = M := by simpa [vO] using c
            walk_at "rd"
            refine ⟨.go, p, dx, some M, S, G, w, mo, N, _, rfl, hp5, by omega, hm1, by omega, by omega, decide_eq_false (by omega), fun H6 s6 => ?_⟩
            walk_at "rd"
            refine iteE (c := false) (by rw [i2]; simp [nxt]) ?_
            walk_at "rd"
            exact s25.trans s6
      · rintro σ H2 ⟨u, v, rfl, s2⟩
        have hp2 := s2 _ _ hp
        refine ⟨_, rfl, _, _, _, _, _, rfl, .own _, T.i_Slowing.ty T.c_Slowing hp2, T.y_Slowing_Behind, ?_⟩
        walk_at "rd"
        refine ⟨_, _, _, _, _, rfl, .own _, T.i_Slowing.ty T.c_Slowing hp2, T.y_Slowing_Rule, ?_⟩
        exact k H2
    · subst eS eG eN eM
      walk_at "rd"
      refine iteD (fun c => ?_) (fun c => ?_)
      · walk_at "rd"
        intro q dq H2 nq s2 e2
        refine ⟨.go, q, dq, _, _, _, _, _, rfl, e2, base_int, base_int, base_int, base_int, base_vO none, fun _ H3 k3 e3 => ⟨rfl, ?_⟩, fun g => absurd (ga 0 none (by omega) (fun _ z => by cases z)) g⟩
        exact ⟨q, dq, 0, none, rfl, (k3.same s2 nq).seq hS, .inl rfl, e3⟩
      · walk_at "rd"
        intro q dq H2 nq s2 e2
        refine ⟨.go, q, dq, _, _, _, _, _, rfl, e2, base_int, base_int, base_int, base_int, base_int, fun _ H3 k3 e3 => ⟨rfl, ?_⟩, fun g => absurd (ga _ (some _) hw0 (fun i z => by cases z; omega)) g⟩
        exact ⟨q, dq, _, some _, rfl, (k3.same s2 nq).seq hS, .inr rfl, e3⟩
theorem b_law (T : Txt K mg) : Binds K (fdOf K ("law", none)) ["_law_script"] [] := T.d_law.bindsN fun _ _ _ _ _ _ us hl => match us, hl with | [_], _ => rfl
end
def dd_cell_at : He.DefD := ⟨("_law_cell_at", none), "_law_cell_at", "_law_cell_at", defArgs s_cell_at, defBody s_cell_at, defScope s_cell_at, [], []⟩
def dd_number : He.DefD := ⟨("_law_number", none), "_law_number", "_law_number", defArgs s_number, defBody s_number, defScope s_number, [], []⟩
def dd_most : He.DefD := ⟨("_law_most", none), "_law_most", "_law_most", defArgs s_most, defBody s_most, defScope s_most, [], []⟩
def dd_is_whole : He.DefD := ⟨("is_whole", none), "is_whole", "is_whole", defArgs s_is_whole, defBody s_is_whole, defScope s_is_whole, [], []⟩
def dd_checked : He.DefD := ⟨("checked", none), "checked", "checked", defArgs s_checked, defBody s_checked, defScope s_checked, [], []⟩
def dd_Slowing_Rule_init : He.DefD := ⟨("Rule", some "__init__"), "__init__", "Rule.__init__", defArgs s_Slowing_Rule_init, defBody s_Slowing_Rule_init, defScope s_Slowing_Rule_init, [], []⟩
def dd_Slowing_Behind_init : He.DefD := ⟨("Behind", some "__init__"), "__init__", "Behind.__init__", defArgs s_Slowing_Behind_init, defBody s_Slowing_Behind_init, defScope s_Slowing_Behind_init, [.int 0, .non], []⟩
def dd_Slowing_init : He.DefD := ⟨("Slowing", some "__init__"), "__init__", "Slowing.__init__", defArgs s_Slowing_init, defBody s_Slowing_init, defScope s_Slowing_init, [.int 0, .non], []⟩
def dd_whole : He.DefD := ⟨("_law_whole", none), "_law_whole", "_law_whole", defArgs s_whole, defBody s_whole, defScope s_whole, [], []⟩
def dd_Slowing_begin : He.DefD := ⟨("Slowing", some "begin"), "begin", "Behind.begin", defArgs s_Slowing_begin, defBody s_Slowing_begin, defScope s_Slowing_begin, [], []⟩
def dd_is_stretch : He.DefD := ⟨("_law_is_stretch", none), "_law_is_stretch", "_law_is_stretch", defArgs s_is_stretch, defBody s_is_stretch, defScope s_is_stretch, [], []⟩
def dd_Slowing_ended : He.DefD := ⟨("Slowing", some "ended"), "ended", "Rule.ended", defArgs s_Slowing_ended, defBody s_Slowing_ended, defScope s_Slowing_ended, [], []⟩
def dd_Slowing_gap_at : He.DefD := ⟨("Slowing", some "gap_at"), "gap_at", "Slowing.gap_at", defArgs s_Slowing_gap_at, defBody s_Slowing_gap_at, defScope s_Slowing_gap_at, [], []⟩
def dd_Slowing_next_of : He.DefD := ⟨("Slowing", some "next_of"), "next_of", "Behind.next_of", defArgs s_Slowing_next_of, defBody s_Slowing_next_of, defScope s_Slowing_next_of, [], []⟩
def dd_Slowing_follow : He.DefD := ⟨("Slowing", some "follow"), "follow", "Rule.follow", defArgs s_Slowing_follow, defBody s_Slowing_follow, defScope s_Slowing_follow, [], []⟩
def dd_gap : He.DefD := ⟨("_law_gap", none), "_law_gap", "_law_gap", defArgs s_gap, defBody s_gap, defScope s_gap, [], []⟩
def dd_law : He.DefD := ⟨("law", none), "law", "law", defArgs s_law, defBody s_law, defScope s_law, [], []⟩
def fn : List He.DefD := ([dd_cell_at, dd_number, dd_most, dd_is_whole, dd_checked, dd_Slowing_Rule_init, dd_Slowing_Behind_init, dd_Slowing_init, dd_whole, dd_Slowing_begin, dd_is_stretch, dd_Slowing_ended, dd_Slowing_gap_at, dd_Slowing_next_of, dd_Slowing_follow, dd_gap, dd_law] : List He.DefD)
def fa : List He.Fa := ([.free "len", .glo "_law_cell_at", .glo "_law_number", .free "min", .glo "_law_most", .cls "Slowing", .noat "Slowing" "many", .free "int", .free "isinstance", .free "bool", .glo "is_whole", .exc "NoRule", .glo "NoRule", .glo "checked", .glo "Rule", .noat "Slowing" "start", .noat "Slowing" "gap", .noat "Slowing" "wide", .glo "Behind", .noat "Slowing" "most", .glo "Slowing", .mkr "Slowing", .free "range", .free "tuple", .glo "_law_whole", .meth "Slowing" "begin", .glo "_law_is_stretch", .meth "Slowing" "ended", .meth "Slowing" "gap_at", .meth "Slowing" "next_of"] : List He.Fa) ++ ([.meth "Slowing" "follow", .glo "_law_gap", .glo "law"] : List He.Fa)
def exs : List (PySem.W.Frag → Bool) := ([clsFnB "Rule" "__init__", clsFnB "Behind" "__init__", insTB "Slowing", kitB2 "Slowing" "Behind" true, kitB2 "Slowing" "Rule" true] : List (PySem.W.Frag → Bool))
def exB (K : PySem.W.Frag) : Bool := exs.all fun f => f K
theorem exs_ok {K : PySem.W.Frag} (h : exB K = true) (i : Nat) {f : PySem.W.Frag → Bool} (e : exs[i]? = some f) : f K = true := List.all_eq_true.mp h f (List.mem_of_getElem? e)
theorem txt_mk {h : Heap} {K : PySem.W.Frag} {mg : Str → Option Value} (X : K.In h) (G : h.Ns mainGlobals mg) (c : SaysW fa fn exB K) : Txt K mg :=
  ⟨He.free_ok X G (c.d.fact 0 (f := .free "len") rfl),
   (let ⟨_, F⟩ := c.d.def_ 0 (d := dd_cell_at) rfl; fnT_mk F),
   He.glo_ok X G (c.d.fact 1 (f := .glo "_law_cell_at") rfl),
   (let ⟨_, F⟩ := c.d.def_ 1 (d := dd_number) rfl; fnT_mk F),
   He.glo_ok X G (c.d.fact 2 (f := .glo "_law_number") rfl),
   He.free_ok X G (c.d.fact 3 (f := .free "min") rfl),
   (let ⟨_, F⟩ := c.d.def_ 2 (d := dd_most) rfl; fnT_mk F),
   He.glo_ok X G (c.d.fact 4 (f := .glo "_law_most") rfl),
   He.cls_ok (c.d.fact 5 (f := .cls "Slowing") rfl),
   He.noat_ok (c.d.fact 6 (f := .noat "Slowing" "many") rfl),
   He.free_ok X G (c.d.fact 7 (f := .free "int") rfl),
   He.free_ok X G (c.d.fact 8 (f := .free "isinstance") rfl),
   He.free_ok X G (c.d.fact 9 (f := .free "bool") rfl),
   (let ⟨_, F⟩ := c.d.def_ 3 (d := dd_is_whole) rfl; fnT_mk F),
   He.glo_ok X G (c.d.fact 10 (f := .glo "is_whole") rfl),
   He.exc_ok (c.d.fact 11 (f := .exc "NoRule") rfl),
   He.glo_ok X G (c.d.fact 12 (f := .glo "NoRule") rfl),
   (let ⟨_, F⟩ := c.d.def_ 4 (d := dd_checked) rfl; fnT_mk F),
   He.glo_ok X G (c.d.fact 13 (f := .glo "checked") rfl),
   (let ⟨_, F⟩ := c.d.def_ 5 (d := dd_Slowing_Rule_init) rfl; fnT_mk F),
   clsFn_ok (exs_ok c.more 0 rfl),
   He.glo_ok X G (c.d.fact 14 (f := .glo "Rule") rfl),
   He.noat_ok (c.d.fact 15 (f := .noat "Slowing" "start") rfl),
   He.noat_ok (c.d.fact 16 (f := .noat "Slowing" "gap") rfl),
   He.noat_ok (c.d.fact 17 (f := .noat "Slowing" "wide") rfl),
   (let ⟨_, F⟩ := c.d.def_ 6 (d := dd_Slowing_Behind_init) rfl; fnT_mk F),
   clsFn_ok (exs_ok c.more 1 rfl),
   He.glo_ok X G (c.d.fact 18 (f := .glo "Behind") rfl),
   He.noat_ok (c.d.fact 19 (f := .noat "Slowing" "most") rfl),
   (let ⟨_, F⟩ := c.d.def_ 7 (d := dd_Slowing_init) rfl; fnT_mk F),
   He.glo_ok X G (c.d.fact 20 (f := .glo "Slowing") rfl),
   He.mkr_ok (c.d.fact 21 (f := .mkr "Slowing") rfl),
   He.free_ok X G (c.d.fact 22 (f := .free "range") rfl),
   He.free_ok X G (c.d.fact 23 (f := .free "tuple") rfl),
   (let ⟨_, F⟩ := c.d.def_ 8 (d := dd_whole) rfl; fnT_mk F),
   He.glo_ok X G (c.d.fact 24 (f := .glo "_law_whole") rfl),
   (let ⟨_, F⟩ := c.d.def_ 9 (d := dd_Slowing_begin) rfl; fnT_mk F),
   He.meth_ok (c.d.fact 25 (f := .meth "Slowing" "begin") rfl),
   (let ⟨_, F⟩ := c.d.def_ 10 (d := dd_is_stretch) rfl; fnT_mk F),
   He.glo_ok X G (c.d.fact 26 (f := .glo "_law_is_stretch") rfl),
   (let ⟨_, F⟩ := c.d.def_ 11 (d := dd_Slowing_ended) rfl; fnT_mk F),
   He.meth_ok (c.d.fact 27 (f := .meth "Slowing" "ended") rfl),
   (let ⟨_, F⟩ := c.d.def_ 12 (d := dd_Slowing_gap_at) rfl; fnT_mk F),
   He.meth_ok (c.d.fact 28 (f := .meth "Slowing" "gap_at") rfl),
   (let ⟨_, F⟩ := c.d.def_ 13 (d := dd_Slowing_next_of) rfl; fnT_mk F),
   He.meth_ok (c.d.fact 29 (f := .meth "Slowing" "next_of") rfl),
   (let ⟨_, F⟩ := c.d.def_ 14 (d := dd_Slowing_follow) rfl; fnT_mk F),
   He.meth_ok (c.d.fact 30 (f := .meth "Slowing" "follow") rfl),
   (let ⟨_, F⟩ := c.d.def_ 15 (d := dd_gap) rfl; fnT_mk F),
   He.glo_ok X G (c.d.fact 31 (f := .glo "_law_gap") rfl),
   insT_ok (exs_ok c.more 2 rfl),
   kitB2_ok (exs_ok c.more 3 rfl),
   kitB2_ok (exs_ok c.more 4 rfl),
   (let ⟨_, F⟩ := c.d.def_ 16 (d := dd_law) rfl; fnT_mk F),
   He.glo_ok X G (c.d.fact 32 (f := .glo "law") rfl)⟩
def names : List PySem.Str := (["_wall", "WakeError", "NoRule", "is_whole", "checked", "Rule", "Behind", "Slowing", "_law_cell_at", "_law_whole", "_law_number", "_law_is_stretch", "_law_gap", "_law_most"] : List PySem.Str)
abbrev R : PySem.W.OpenRow := PySem.W.OpenLaw.row PySem.Challenge.rw_wakefew_k05_gaps_that_double
abbrev hk : PySem.W.Hook := hookW 6 fa fn exB
def ob (s : PySem.W.SharedT) : He.AlD × Bool := obsW 6 fa fn exB (HandSHeadRun.getT s)
theorem ob_eq (s : PySem.W.SharedT) : ob s = hk.obs s.abs := obsW_eq (HandSHeadRun.getT_eq s)
set_option maxHeartbeats 0 in
theorem run (w : World) : HandSHeadRun.RunEq R (PySem.W.view R.prog [18]) hk ob 6000 names w := by
  intro os
  kernel_rfl
end W
open PySem PySem.W PyProof.Rows
set_option maxRecDepth 100000 in
set_option maxHeartbeats 0 in
theorem PySem.Challenge.cw_wakefew_k05_gaps_that_double_holds : PySem.Challenge.rw_wakefew_k05_gaps_that_double.Holds := by
  w_on; o_law
  refine HandSHeadRun.head_any (r := OpenLaw.row PySem.Challenge.rw_wakefew_k05_gaps_that_double) (q := view (OpenLaw.row PySem.Challenge.rw_wakefew_k05_gaps_that_double).prog [18]) (H := W.hk) (ob := W.ob) (M := 6000) (loose := W.names) (d := HandSHeadRun.topDef (OpenLaw.row PySem.Challenge.rw_wakefew_k05_gaps_that_double).prog 18) (kwd := []) W.ob_eq
    (by kernel_rfl) (fun s => by kernel_rfl) W.run (by kernel_rfl) (by kernel_rfl) (by kernel_rfl) (by rfl) (by first | assumption | decide +kernel) (by decide +kernel) ⟨rfl, rfl, rfl, rfl, rfl, by decide +kernel⟩ ?hw ?hc
  case hw => w_witness2
  case hc =>
    refine W.walk_ofEB (l := PySem.Challenge.rw_wakefew_k05_gaps_that_double) (n := 63) (k := 7) (x := "_law_script") (CX := L2.CX0) rfl (by decide) (by kernel_rfl) ⟨rfl, by decide, by decide⟩ ?F (fun _ _ _ _ z => z)
    intro w mg fa h Y G hmg0
    obtain ⟨K, KX, c⟩ := Y
    have hmg : mg ("law" : PySem.Str) = some (.ref fa) := by
      have e : (HandSHeadRun.topDef (OpenLaw.row PySem.Challenge.rw_wakefew_k05_gaps_that_double).prog 18).name = ("law" : PySem.Str) := by kernel_rfl
      rw [← e]
      exact hmg0
    have T := W.txt_mk KX G c
    have e := hmg.symm.trans T.g_law
    cases e
    have b := L2.FunD.bindsA (ps := ["_law_script"]) T.d_law fun _ _ _ _ _ _ us hl => match us, hl with | [_], _ => rfl
    exact ⟨K, W.fdOf K ("law", none), W.sp_law K, KX, fun s v => b s [v] rfl, fun H a ns hl hb hO hS => ⟨.go, ⟨a, ns, rfl, hS, hl, hb, hO, fun _ => rfl⟩⟩, fun base _ _ => W.ok_law T⟩
#print axioms PySem.Challenge.cw_wakefew_k05_gaps_that_double_holds
