import PyProof.Rows.All
import Wide.All
import OpenK.AllK
import Wide.FinOn
import KE.KStateDown
import Lean
import HandS.ForMost
import HandS.ForExc
import HandS.TryMany
import HandS.ExcIs
import HandS.IsInst
import HandS.Defaults
import HandS.ClsMeth
import HandS.EndBits
import HandS.Wide
import HandS.NoneIn
import HandS.Style
import HandS.Head0
import HandS.Head1
import HandS.Head2
import HandS.HeadEnd
import HandS.HeadHook1
import HandS.HeadHook2
import HandS.HeadHook3
import HandS.HeadHook4
import PySem.Challenge.RW_wakefew_k09_whole_left_alone
set_option Elab.async false
set_option linter.all false
set_option maxRecDepth 100000
set_option maxHeartbeats 4000000
namespace W
open PySem PySem.Spec PyProof.Rows L2
/-- a promise's first word: so that no walk goes into it by itself -/
inductive Go : Prop where
  | go
def fdOf (K : PySem.W.Frag) (p : Str × Option Str) : FuncData := match K.lookup (He.fAd K p) with
  | some ⟨_, _, .func fd, _⟩ => fd
  | _ => default
abbrev FnT (K : PySem.W.Frag) (p : Str × Option Str) (x q : Str) (st : Stmt) (dvs : List V) : Prop := FunD K x q (defArgs st) (defBody st) (defScope st) dvs [] (He.fAd K p) (fdOf K p)
theorem fnT_mk {K : PySem.W.Frag} {p : Str × Option Str} {x q : Str} {st : Stmt} {dvs : List V} {fd : FuncData} (F : FunD K x q (defArgs st) (defBody st) (defScope st) dvs [] (He.fAd K p) fd) : FnT K p x q st dvs := by
  have e : fdOf K p = fd := by
    obtain ⟨oc, od, dV, kV, doc, pm, an, cdv, ct, osl, rfl, lk, _⟩ := F.ex
    unfold fdOf
    rw [lk]
  show FunD K x q (defArgs st) (defBody st) (defScope st) dvs [] (He.fAd K p) (fdOf K p)
  rw [e]
  exact F
/-- two readings of one expression -/
theorem PE.or {X : Cx} {e : Expr} {t u : TE} (h : PE X e t) (k : PE X e u) : PE X e (fun σ H Q => t σ H Q ∨ u σ H Q) :=
  ⟨fun pins s σ H Q I z => z.elim (h.run pins s σ H Q I) (k.run pins s σ H Q I)⟩
theorem PT.or {X : Cx} {e : Expr} {t u : TT} (h : PT X e t) (k : PT X e u) : PT X e (fun σ H Q => t σ H Q ∨ u σ H Q) :=
  ⟨fun pins s σ H Q I z => z.elim (h.run pins s σ H Q I) (k.run pins s σ H Q I)⟩
/-- a function read off its class: C.m(self, ..) -/
structure ClsFn (K : PySem.W.Frag) (C : Addr) (m : Str) (f : Addr) : Prop where
  rd : ClX.CRead K C (.type "type")
  at_ : PySem.W.findCls K (.ref C) (.type "type") m = some (.val (.ref f))
  kp : PySem.W.keepIn K (.ref f) = true
theorem pe_clsfn {X : Cx} {CX : CXT} {k : Nat} {f C : Addr} {fd : FuncData} {ps : List Str} {sp : Sp} {dvs : List V} {ds : List Value} {E : XK} {x m : Str} {p pos apos : Pos} {e : Expr} {es : List Expr} {t : TA} {pl : Sem Bool} (c : ClsFn X.K C m f)
    (F : FnOk X.prog X.w X.K X.mg X.base CX k f fd ps sp) (hr : Room k X.A) (hg : Gl X x) (hm : X.mg x = some (.ref C)) (hb : Binds X.K fd ps ds) (hd : Vals dvs ds) (hx : Passes CX X E)
    (ha : PA X (e :: es) t) (hdb : (x == ("__debug__" : Str)) = false := by decide) (hst : starEach (e :: es) X.env = (false, eval e X.env) :: starEach es X.env := by rfl) (hpl : (backTo pos (starEach es X.env)).any (·.1) = false := by rfl)
    (ht : eval (.Call (.Attribute (.Name x p) m apos) (e :: es) [] pos) X.env = (do
      let ov ← eval (.Name x p) X.env
      standAt apos.atName
      let (f, first) ← holding [ov] (getMethod ov m pl)
      callWith pos f first (backTo pos (starEach (e :: es) X.env)) (backToKw pos (keywordEach [] X.env))) := by rfl) :
    PE X (.Call (.Attribute (.Name x p) m apos) (e :: es) [] pos) (tCall sp dvs E t) := by
  refine ⟨fun pins s σ H Q I h => ?_⟩
  refine PySem.W.methodCall_KW (pl := pl) (ld_glob I hg hm ?_ hdb) ht
  refine PySem.W.method_cls I.kIn c.rd.ga ?_
  refine PySem.W.cls_value I.kIn c.rd.rd c.at_ rfl ?_
  have I1 := I.tok (s.toks + 1)
  refine PySem.W.callWith_K (h₀ := X.base) (first := []) I.ok.mod.kin c.kp (thn (ha.run pos pins _ σ H _ I1 h) fun us s1 ⟨vs, H1, I2, r, q⟩ => ⟨I2.kIn, ?_⟩) hst hpl
  exact run_fn F hr hb hd hx I2 r q
/-! ### heaps -/
theorem upd_keep {H : Hp} {a b : Addr} {o u : HO} (h : H b = some u) (n : H a = none) : upd H a o b = some u := by
  rw [upd_ne (ne_of_none h n)]
  exact h
theorem same_new {H : Hp} {p : Addr} {o : HO} (h : H p = none) : Same H (upd H p o) := fun a u e => upd_keep e h
/-- laid, then written -/
theorem upd_keep2 {H : Hp} {a b : Addr} {o u v : HO} (h : H b = some v) (n : H a = none) : upd (upd H a o) a u b = some v := by
  rw [upd_upd]
  exact upd_keep h n
theorem same_upd2 {H : Hp} {p : Addr} {o u : HO} (h : H p = none) : Same H (upd (upd H p o) p u) := fun a v e => upd_keep2 e h
/-- what H0 did not know is written -/
theorem same_mut {H0 H : Hp} {p : Addr} {o : HO} (s : Same H0 H) (h : H0 p = none) : Same H0 (upd H p o) := fun a u e => by
  rw [upd_ne (ne_of_none e h)]
  exact s a u e
theorem Same.seqT {K : PySem.W.Frag} {H H' : Hp} {a : Addr} {xs : List V} (e : Same H H') (h : SqT K H a xs) : SqT K H' a xs := by
  rcases h with (h | ⟨o, h⟩) | h
  · exact .inl (.inl (e _ _ h))
  · exact .inl (.inr ⟨o, e _ _ h⟩)
  · exact .inr h
theorem iteD {c A B : Prop} [Decidable c] (h1 : c → A) (h2 : ¬ c → B) : if decide c = true then A else B := by
  by_cases h : c
  · rw [decide_eq_true h]
    exact iteT (h1 h)
  · rw [decide_eq_false h]
    exact iteF (h2 h)
theorem iteDT {c A B : Prop} [Decidable c] (h : c) (h1 : A) : if decide c = true then A else B := by
  rw [decide_eq_true h]
  exact iteT h1
theorem iteDF {c A B : Prop} [Decidable c] (h : ¬ c) (h1 : B) : if decide c = true then A else B := by
  rw [decide_eq_false h]
  exact iteF h1
theorem iteN {c A B : Prop} [Decidable c] (h1 : c → B) (h2 : ¬ c → A) : if (!decide c) = true then A else B := by
  by_cases h : c
  · rw [decide_eq_true h]
    exact iteF (h1 h)
  · rw [decide_eq_false h]
    exact iteT (h2 h)
theorem iteB {b : Bool} {A B : Prop} (h1 : b = true → A) (h2 : b = false → B) : if b = true then A else B := by
  cases b with
  | true => exact iteT (h1 rfl)
  | false => exact iteF (h2 rfl)
theorem iteE {b c : Bool} {A B : Prop} (e : b = c) (h : if c = true then A else B) : if b = true then A else B := by
  rw [e]
  exact h
theorem V.int_inj {i j : Int} : (V.int i = V.int j) ↔ i = j := ⟨fun h => by injection h, fun h => by rw [h]⟩
theorem V.str_inj {i j : Str} : (V.str i = V.str j) ↔ i = j := ⟨fun h => by injection h, fun h => by rw [h]⟩
theorem V.bl_inj {i j : Bool} : (V.bl i = V.bl j) ↔ i = j := ⟨fun h => by injection h, fun h => by rw [h]⟩
/-! ### facts read off the written part -/
def clsFnB (x m : Str) (K : PySem.W.Frag) : Bool := PySem.W.readsIn K (He.ga K x) (.type "type") && (decide (PySem.W.specialIn K (.ref (He.ga K x)) "__getattribute__" = some (some (.builtin "type.__getattribute__"))) &&
  ((match PySem.W.findCls K (.ref (He.ga K x)) (.type "type") m with
    | some (.val (.ref a)) => decide (a = He.fAd K (x, some m))
    | _ => false) && PySem.W.keepIn K (.ref (He.fAd K (x, some m)))))
theorem clsFn_ok {K : PySem.W.Frag} {x m : Str} (h : clsFnB x m K = true) : ClsFn K (He.ga K x) m (He.fAd K (x, some m)) := by
  obtain ⟨h1, h⟩ := He.ba h
  obtain ⟨h2, h⟩ := He.ba h
  obtain ⟨h3, h4⟩ := He.ba h
  refine ⟨⟨h1, of_decide_eq_true h2⟩, ?_, h4⟩
  split at h3
  · rename_i a e
    rw [e, of_decide_eq_true h3]
  · cases h3
structure InsT (K : PySem.W.Frag) (C : Addr) : Prop where
  ha : PySem.W.findIn K (.ref C) "__class__" = some (some (.builtin "object.__class__"))
  hn : PySem.W.specialIn K (.builtin "object.__class__") "__get__" = some (some (.builtin "getset_descriptor.__get__"))
  htk : PySem.W.takesIn K (.builtin "object.__class__") = some true
  hm : PySem.W.mroIn K C (.type "object") = some true
def insTB (x : Str) (K : PySem.W.Frag) : Bool := decide (PySem.W.findIn K (.ref (He.ga K x)) "__class__" = some (some (.builtin "object.__class__"))) && (decide (PySem.W.specialIn K (.builtin "object.__class__") "__get__" = some (some (.builtin "getset_descriptor.__get__"))) &&
  (decide (PySem.W.takesIn K (.builtin "object.__class__") = some true) && decide (PySem.W.mroIn K (He.ga K x) (.type "object") = some true)))
theorem insT_ok {K : PySem.W.Frag} {x : Str} (h : insTB x K = true) : InsT K (He.ga K x) := by
  obtain ⟨h1, h⟩ := He.ba h
  obtain ⟨h2, h⟩ := He.ba h
  obtain ⟨h3, h4⟩ := He.ba h
  exact ⟨of_decide_eq_true h1, of_decide_eq_true h2, of_decide_eq_true h3, of_decide_eq_true h4⟩
theorem InsT.ty {K : PySem.W.Frag} {C a dx : Addr} {H : Hp} {fs : List (Str × V)} (i : InsT K C) (c : Cls K C) (e : H a = some (.ins C dx fs)) : TyX K H (.ref a) (.ref C) := .base (.ins e c i.ha i.hn i.htk i.hm)
def kitB2 (x y : Str) (b : Bool) (K : PySem.W.Frag) : Bool := decide (PySem.W.kitOne K (.ref (He.ga K x)) (.ref (He.ga K y)) = some b)
theorem kitB2_ok {K : PySem.W.Frag} {x y : Str} {b : Bool} (h : kitB2 x y b K = true) : PySem.W.kitOne K (.ref (He.ga K x)) (.ref (He.ga K y)) = some b := of_decide_eq_true h
def kitB3 (x : Str) (y : String) (b : Bool) (K : PySem.W.Frag) : Bool := decide (PySem.W.kitOne K (.ref (He.ga K x)) (.type y) = some b)
theorem kitB3_ok {K : PySem.W.Frag} {x : Str} {y : String} {b : Bool} (h : kitB3 x y b K = true) : PySem.W.kitOne K (.ref (He.ga K x)) (.type y) = some b := of_decide_eq_true h
/-! ### the head's facts: read off what the module's names and the model's own table reach -/
def asW (g : Addr → Option Obj) : Nat → List Addr
  | 0 => [mainGlobals, PySem.cStatics]
  | n + 1 => He.growD g (asW g n)
structure SaysW (fa : List He.Fa) (fn : List He.DefD) (ex : PySem.W.Frag → Bool) (K : PySem.W.Frag) : Prop where
  d : He.SaysD fa fn K
  more : ex K = true
def obsW (n : Nat) (fa : List He.Fa) (fn : List He.DefD) (ex : PySem.W.Frag → Bool) (g : Addr → Option Obj) : He.AlD × Bool := (He.obsD fa fn (He.frT g (asW g n)), ex (He.frT g (asW g n)))
def hookW (n : Nat) (fa : List He.Fa) (fn : List He.DefD) (ex : PySem.W.Frag → Bool) : PySem.W.Hook where
  α := He.AlD × Bool
  obs := fun s => obsW n fa fn ex s.heap.get?
  val := fun _ => (He.valD fn, true)
  says := fun _ h => ∃ K : PySem.W.Frag, K.In h ∧ SaysW fa fn ex K
  of := fun _ _ e => ⟨_, He.frT_in, ⟨congrArg Prod.fst e, congrArg Prod.snd e⟩⟩
  keeps := fun _ _ _ ⟨K, hK, c⟩ k => ⟨K, PySem.W.Frag.In.keeps hK k, c⟩
theorem obsW_eq {n : Nat} {fa : List He.Fa} {fn : List He.DefD} {ex : PySem.W.Frag → Bool} {g : Addr → Option Obj} {s : Shared} (h : ∀ a, g a = s.heap.get? a) : obsW n fa fn ex g = (hookW n fa fn ex).obs s := by
  have e : g = s.heap.get? := funext h
  rw [e] <;> rfl
/-- the end, with the script's bits told, and that nothing but the script is tracked -/
theorem walk_ofEB {l : PySem.W.OpenLaw} {n k : Nat} {q : Program} {loose : List Str} {XP : (Str → Option Value) → Heap → Prop} {YP : World → Heap → Prop} {d : DefRec} {CX : CXT} {x : Str}
    (hn : l.most = some n) (hn2 : n ≤ sizeLine) (hdf : d.params.defaults = []) (hr : Room k callerA)
    (F : ∀ (w : World) (mg : Str → Option Value) (fa : Addr) (h : Heap), YP w h → h.Ns mainGlobals mg → mg d.name = some (.ref fa) →
      ∃ (K : PySem.W.Frag) (fd : FuncData) (sp : Sp), K.In h ∧ (∀ (s : Shared) (u : Value), BindsTo s fd ⟨[u], []⟩ [(x, u)]) ∧
        (∀ (H : Hp) (a : Addr) (ns : List Int), ns.length ≤ n → (∀ z ∈ ns, Builtin.Int.intBits z ≤ 1048576) → Only H → SqL K H a (ns.map V.int) → sp [.ref a] H (fun v _ => v = .bl true) fun _ _ _ => False) ∧
        ∀ base : Heap, K.In base → base.Ns mainGlobals mg → FnOk l.prog w K mg base CX k fa fd [x] sp)
    (hCX : ∀ (H : Hp) (s : Shared) (e : Value) (s' : Shared), CX [] H s (fun _ _ _ => False) e s' → False) :
    PySem.W.WalkO q loose XP YP l.row.toRowW d [] (fun f vs => PySem.call f vs) := by
  refine Att.attach_callB hn hdf fun w s₀ s₁ mg mb fa o pm cd doc a vs ns G Y ho hd hcd hmg hobj hints hlen hbits hg => ?_
  obtain ⟨K, fd, sp, KX, hb, hsp, hF⟩ := F w mg fa _ Y G.T.g hmg
  exact law_call KX G.T.g G.T.b G.T.builtins G.T.nolimit hg hobj hints (Nat.le_trans hlen hn2) hr hF hb (fun H hO hS => hsp H a ns hlen hbits hO hS) fun H e s' => hCX H s₁ e s'
/-- the law's promise: a list of at most 63 ints is handed in, True comes out -/
structure sp_law (K : PySem.W.Frag) (vs : List V) (H : Hp) (Q : VK) (E : XK) : Prop where
  tt : Go
  ex : ∃ (a : Addr) (ns : List Int), vs = [.ref a] ∧ SqL K H a (ns.map V.int) ∧ ns.length ≤ 63 ∧ (∀ z ∈ ns, Builtin.Int.intBits z ≤ 1048576) ∧ Only H ∧ ∀ H', Q (.bl true) H'
/-! ### new objects: the heap behind by what is known of it -/
theorem PE.imp {X : Cx} {e : Expr} {t t' : TE} (h : PE X e t) (k : ∀ σ H Q, t' σ H Q → t σ H Q) : PE X e t' := ⟨fun pins s σ H Q I z => h.run pins s σ H Q I (k σ H Q z)⟩
theorem OpR.imp {X : Cx} {f : Value → Value → Sem Value} {r r' : R2} (h : OpR X f r) (k : ∀ x y H Q, r' x y H Q → r x y H Q) : OpR X f r' := fun pins s σ H x y v u Q I a b z => h pins s σ H x y v u Q I a b (k x y H Q z)
theorem CallR.imp {X : Cx} {f : Value} {r r' : List V → Hp → VK → Prop} (h : CallR X f r) (k : ∀ xs H Q, r' xs H Q → r xs H Q) : CallR X f r' := fun pins s σ H xs us Q I a z => h pins s σ H xs us Q I a (k xs H Q z)
/-- Q of a new object o -/
def New (H : Hp) (o : HO) (Q : VK) : Prop := ∀ (p : Addr) (H' : Hp), H p = none → Same H H' → H' p = some o → Q (.ref p) H'
theorem New.at_ {H : Hp} {o : HO} {Q : VK} (h : New H o Q) (p : Addr) (hp : H p = none) : Q (.ref p) (upd H p o) := h p _ hp (same_new hp) upd_same
def tTupN (t : TA) : TE := fun σ H Q => t σ H fun xs H1 => xs.length ≤ sizeLine ∧ New H1 (.tup xs) Q
def tLstN (t : TA) : TE := fun σ H Q => t σ H fun xs H1 => xs.length ≤ sizeLine ∧ New H1 (.lst xs) Q
theorem pa_mono {X : Cx} {es : List Expr} {t : TA} (h : PA X es t) : PA X es (fun σ H Q => ∃ Q', (∀ xs H1, Q' xs H1 → Q xs H1) ∧ t σ H Q') := ⟨fun pos pins s σ H Q I ⟨Q', k, z⟩ => thn (h.run pos pins s σ H Q' I z) fun us s1 ⟨vs, H1, I1, r, q⟩ => ⟨vs, H1, I1, r, k _ _ q⟩⟩
section
variable {X : Cx} {es : List Expr} {t : TA} {pos : Pos}
theorem pe_tupN {x1} (h : PA X es t) : PE X (.Tuple es x1 pos) (tTupN t) := PE.imp (pe_tup (pa_mono h)) fun σ H Q z => ⟨_, fun xs H1 w => ⟨w.1, w.2.at_⟩, z⟩
theorem pe_lstN (h : PA X es t) : PE X (.List es pos) (tLstN t) := PE.imp (pe_lst (pa_mono h)) fun σ H Q z => ⟨_, fun xs H1 w => ⟨w.1, w.2.at_⟩, z⟩
theorem pe_dnewN : PE X (.Dict [] [] pos) (fun _ H Q => New H (.dK []) Q) := PE.imp pe_dnewK fun σ H Q z => z.at_
theorem pe_dnewTN : PE X (.Dict [] [] pos) (fun _ H Q => New H (.dT []) Q) := PE.imp pe_dnewT fun σ H Q z => z.at_
def rSlN (K : PySem.W.Frag) : V → Option Int → Option Int → Hp → VK → Prop := fun x lo hi H Q => ∃ a xs, x = .ref a ∧ SqL K H a xs ∧ New H (.lst (cutV xs lo hi)) Q
theorem SlR.imp {r r' : V → Option Int → Option Int → Hp → VK → Prop} (h : SlR X r) (k : ∀ x lo hi H Q, r' x lo hi H Q → r x lo hi H Q) : SlR X r' := by
  intro pins s σ H x v vl vu lo hi sl Q I rx hs pl pu z
  exact h pins s σ H x v vl vu lo hi sl Q I rx hs pl pu (k _ _ _ _ _ z)
theorem sl_listN : SlR X (rSlN X.K) := SlR.imp sl_list fun x lo hi H Q ⟨a, xs, e, h, z⟩ => ⟨a, xs, e, h, z.at_⟩
def rListN (K : PySem.W.Frag) : List V → Hp → VK → Prop := fun xs H Q => ∃ p ys, xs = [.ref p] ∧ (SqL K H p ys ∨ SqT K H p ys) ∧ New H (.lst ys) Q
theorem call_list_ofN : CallR X (.type "list") (rListN X.K) := CallR.imp call_list_of fun xs H Q ⟨p, ys, e, h, z⟩ => ⟨p, ys, e, h, z.at_⟩
def rCatN : R2 := fun x y H Q => ∃ l b xs zs, x = .ref l ∧ y = .ref b ∧ H l = some (.lst xs) ∧ H b = some (.lst zs) ∧ xs.length + zs.length ≤ sizeLine ∧ New H (.lst (xs ++ zs)) Q
theorem op_catN : OpR X (binaryOp .Add) rCatN := OpR.imp op_cat fun x y H Q ⟨l, b, xs, zs, e1, e2, h1, h2, h3, z⟩ => ⟨l, b, xs, zs, e1, e2, h1, h2, h3, z.at_⟩
end
/-! ### what is written: all else is kept -/
def Keep (p : Addr) (H H' : Hp) : Prop := ∀ b o, b ≠ p → H b = some o → H' b = some o
theorem Keep.refl (p : Addr) (H : Hp) : Keep p H H := fun _ _ _ h => h
theorem Keep.trans {p : Addr} {H H1 H2 : Hp} (a : Keep p H H1) (b : Keep p H1 H2) : Keep p H H2 := fun c o n h => b c o n (a c o n h)
theorem Keep.upd {p : Addr} {H : Hp} {o : HO} : Keep p H (L2.upd H p o) := fun b u n h => by
  rw [upd_ne n]
  exact h
theorem Same.keep {p : Addr} {H H' : Hp} (s : Same H H') : Keep p H H' := fun b o _ h => s b o h
theorem Keep.same {p : Addr} {H0 H H' : Hp} (k : Keep p H H') (s : Same H0 H) (n : H0 p = none) : Same H0 H' := fun b o h => k b o (ne_of_none h n) (s b o h)
theorem PS.imp {X : Cx} {st : Stmt} {t t' : TS} (h : PS X st t) (k : ∀ D σ H, t' D σ H → t D σ H) : PS X st t' := ⟨fun pins s σ H D I z => h.run pins s σ H D I (k D σ H z)⟩
theorem pe_mono {X : Cx} {e : Expr} {t : TE} (h : PE X e t) : PE X e (fun σ H Q => ∃ Q', (∀ v H1, Q' v H1 → Q v H1) ∧ t σ H Q') := ⟨fun pins s σ H Q I ⟨Q', k, z⟩ => thn (h.run pins s σ H Q' I z) fun u s1 ⟨v, H1, I1, r, q⟩ => ⟨v, H1, I1, r, k _ _ q⟩⟩
/-- o.f = e -/
def sFldN (K : PySem.W.Frag) (ta tv : TE) (f : Str) : TS := fun D σ H => tv σ H fun y H1 => ta σ H1 fun x H2 => ∃ a C dx fs, x = .ref a ∧ H2 a = some (.ins C dx fs) ∧ Cls K C ∧ NoAttr K C f ∧ fs.length < 1000 ∧
  ∀ H', Keep a H2 H' → H' a = some (.ins C dx (putF f y fs)) → D.nx σ H'
theorem ps_fldN {X : Cx} {o value : Expr} {f : Str} {pos pos' : Pos} {ta tv : TE} (ha : PE X o ta) (hv : PE X value tv) (hs : swapsWith value (some (.Attribute o f pos')) pos.line X.env = pure false) : PS X (.Assign [.Attribute o f pos'] value pos) (sFldN X.K ta tv f) := by
  refine PS.imp (ps_fld (pe_mono ha) (pe_mono hv) hs) fun D σ H z => ⟨_, fun y H1 w => ?_, z⟩
  refine ⟨_, fun x H2 w2 => ?_, w⟩
  obtain ⟨a, C, dx, fs, e, ea, c, n, l, k⟩ := w2
  exact ⟨a, C, dx, fs, e, ea, c, n, l, k _ Keep.upd upd_same⟩
/-- the ways behind a statement joined: J holds behind each -/
def tCut (t : TS) : TS := fun D σ H => ∃ J : L2.St → Hp → Prop, (∀ σ' H', J σ' H' → D.nx σ' H') ∧ t { D with nx := J } σ H
theorem ps_cut {X : Cx} {st : Stmt} {t : TS} (h : PS X st t) : PS X st (tCut t) := by
  refine ⟨fun pins s σ H D I ⟨J, k, z⟩ => thn (h.run pins s σ H _ I z) fun f s1 q => ?_⟩
  cases f with
  | next =>
    obtain ⟨σ', H', I', j⟩ := q
    exact ⟨σ', H', I', k σ' H' j⟩
  | brk => exact q
  | cont => exact q
  | ret u => exact q
/-- a test that may be weakened; a while by a word and a measure of the state -/
def tMonoT (t : TT) : TT := fun σ H Q => ∃ Q' : Bool → Hp → Prop, (∀ b H1, Q' b H1 → Q b H1) ∧ t σ H Q'
theorem pt_monoT {X : Cx} {e : Expr} {t : TT} (h : PT X e t) : PT X e (tMonoT t) := ⟨fun pins s σ H Q I ⟨Q', k, z⟩ => thn (h.run pins s σ H Q' I z) fun b s1 ⟨H1, I1, q⟩ => ⟨H1, I1, k _ _ q⟩⟩
theorem while_w {t : TT} {tb : TS} {D : Ends} {σ : L2.St} {H : Hp} (Pv : L2.St → Hp → Prop) (μ : L2.St → Hp → Nat) (h0 : Pv σ H)
    (hs : ∀ σ H, Pv σ H → t σ H fun b H1 => if b = true then tb { D with nx := fun σ' H' => Pv σ' H' ∧ μ σ' H' < μ σ H, ct := fun σ' H' => Pv σ' H' ∧ μ σ' H' < μ σ H, bk := D.nx } σ H1 else D.nx σ H1) : tWhile (tMonoT t) tb D σ H :=
  while_by Pv μ h0 (fun σ H p => ⟨_, fun _ _ q => q, hs σ H p⟩) fun σ H Q Q' k ⟨Q0, k0, z⟩ => ⟨Q0, fun b H1 q => k _ _ (k0 _ _ q), z⟩
theorem few {fs : List (Str × V)} (h : Nat.blt fs.length 1000 = true) : fs.length < 1000 := Nat.le_of_ble_eq_true h
/-- C(..): a new instance, then its __init__ -/
def tMakeN (C : Addr) (sp : Sp) (dvs : List V) (E : XK) (t : TA) : TE := fun σ H Q => t σ H fun vs H1 => ∀ (x dx : Addr) (H2 : Hp), H1 x = none → Same H1 H2 → H2 x = some (.ins C dx []) → sp (.ref x :: (vs ++ dvs)) H2 (fun v H3 => v = .non ∧ Q (.ref x) H3) E
section
variable {X : Cx} {CX : CXT} {k : Nat} {f C : Addr} {fd : FuncData} {ps : List Str} {sp : Sp} {dvs : List V} {ds : List Value} {E : XK} {x : Str} {p pos : Pos} {e : Expr} {es : List Expr} {t : TA}
theorem make_ex {H1 : Hp} {Q : VK} {vs : List V} (k : ∀ (x dx : Addr) (H2 : Hp), H1 x = none → Same H1 H2 → H2 x = some (.ins C dx []) → sp (.ref x :: (vs ++ dvs)) H2 (fun v H3 => v = .non ∧ Q (.ref x) H3) E) :
    ∀ x dx, H1 x = none → H1 dx = none → dx ≠ x → sp (.ref x :: (vs ++ dvs)) (L2.upd (L2.upd H1 dx (.own x)) x (.ins C dx [])) (fun v H2 => v = .non ∧ Q (.ref x) H2) E := fun x dx hx hd ne =>
  k x dx _ hx ((same_new hd).trans (same_new (by rw [upd_ne ne.symm]; exact hx))) upd_same
theorem pe_makeN (M : Mk X.K C f) (F : FnOk X.prog X.w X.K X.mg X.base CX k f fd ps sp) (hr : Room (k + 1) X.A) (hg : Gl X x) (hm : X.mg x = some (.ref C)) (hb : Binds X.K fd ps ds) (hd : Vals dvs ds) (hx : Passes CX X E)
    (ha : PA X (e :: es) t) (hdb : (x == ("__debug__" : Str)) = false := by decide) (he : starEach (e :: es) X.env = (false, eval e X.env) :: starEach es X.env := by rfl) (hpl : (backTo pos (starEach es X.env)).any (·.1) = false := by rfl) :
    PE X (.Call (.Name x p) (e :: es) [] pos) (tMakeN C sp dvs E t) :=
  PE.imp (pe_make M F hr hg hm hb hd hx (pa_mono ha) hdb he hpl) fun σ H Q z => ⟨_, fun vs H1 w => make_ex w, z⟩
theorem pe_make0N (M : Mk X.K C f) (F : FnOk X.prog X.w X.K X.mg X.base CX k f fd ps sp) (hr : Room (k + 1) X.A) (hg : Gl X x) (hm : X.mg x = some (.ref C)) (hb : Binds X.K fd ps ds) (hd : Vals dvs ds) (hx : Passes CX X E) (hdb : (x == ("__debug__" : Str)) = false := by decide) :
    PE X (.Call (.Name x p) [] [] pos) (tMakeN C sp dvs E tNil) :=
  PE.imp (pe_make0 M F hr hg hm hb hd hx hdb) fun σ H Q z => make_ex z
end
/-! ### values of the built-in kinds -/
def bTys : List String := ["int", "bool", "str", "NoneType", "list", "tuple", "dict"]
theorem bTys_mem {t : String} (h : bTys.contains t = true) : t ∈ bTys := List.contains_iff_mem.mp h
def Base (K : PySem.W.Frag) (H : Hp) (v : V) : Prop := ∃ t : String, TyX K H v (.type t) ∧ t ∈ bTys
theorem base_int {K : PySem.W.Frag} {H : Hp} {i : Int} : Base K H (.int i) := ⟨"int", .base (.int i), bTys_mem (by decide +kernel)⟩
theorem base_bl {K : PySem.W.Frag} {H : Hp} {i : Bool} : Base K H (.bl i) := ⟨"bool", .base (.bl i), bTys_mem (by decide +kernel)⟩
theorem base_str {K : PySem.W.Frag} {H : Hp} {i : Str} : Base K H (.str i) := ⟨"str", .base (.str i), bTys_mem (by decide +kernel)⟩
theorem base_non {K : PySem.W.Frag} {H : Hp} : Base K H .non := ⟨"NoneType", .base .non, bTys_mem (by decide +kernel)⟩
theorem base_lst {K : PySem.W.Frag} {H : Hp} {a : Addr} {xs : List V} (h : H a = some (.lst xs)) : Base K H (.ref a) := ⟨"list", .base (.lst h), bTys_mem (by decide +kernel)⟩
theorem base_tup {K : PySem.W.Frag} {H : Hp} {a : Addr} {xs : List V} (h : H a = some (.tup xs)) : Base K H (.ref a) := ⟨"tuple", .base (.tup h), bTys_mem (by decide +kernel)⟩
/-- an int, the other kinds not -/
def isI : V → Bool
  | .int _ => true
  | _ => false
theorem tyx_isI {K : PySem.W.Frag} {H : Hp} {v : V} {t : String} (h : TyX K H v (.type t)) : (t == "int") = isI v := by
  cases h with
  | base b => cases b <;> first | rfl | decide +kernel
  | _ => first | rfl | decide +kernel
theorem isI_iff {v : V} (h : isI v = true) : ∃ i, v = .int i := by
  cases v with
  | int i => exact ⟨i, rfl⟩
  | _ => cases h
/-- kept through a change of an instance -/
theorem TyX.keep {K : PySem.W.Frag} {H H' : Hp} {p C dx : Addr} {fs : List (Str × V)} {v : V} {t : String} (k : Keep p H H') (hp : H p = some (.ins C dx fs)) (h : TyX K H v (.type t)) : TyX K H' v (.type t) := by
  have ne : ∀ {a : Addr} {o : HO}, H a = some o → (o ≠ .ins C dx fs) → H' a = some o := fun {a o} e n => k a o (fun z => n (by rw [z, hp] at e; exact (Option.some.inj e).symm)) e
  cases h with
  | base b =>
    cases b with
    | non => exact .base .non
    | bl x => exact .base (.bl x)
    | int i => exact .base (.int i)
    | str x => exact .base (.str x)
    | flt x => exact .base (.flt x)
    | lst e => exact .base (.lst (ne e (fun z => nomatch z)))
    | frz e => exact .base (.frz (ne e (fun z => nomatch z)))
    | tup e => exact .base (.tup (ne e (fun z => nomatch z)))
    | dK e => exact .base (.dK (ne e (fun z => nomatch z)))
    | dT e => exact .base (.dT (ne e (fun z => nomatch z)))
  | byt b => exact .byt b
  | set e => exact .set (ne e (fun z => nomatch z))
  | kList e c => exact .kList e c
  | kTuple e c => exact .kTuple e c
  | kDict e c => exact .kDict e c
  | fTuple e => exact .fTuple (ne e (fun z => nomatch z))
  | fDict e => exact .fDict (ne e (fun z => nomatch z))
theorem Base.keep {K : PySem.W.Frag} {H H' : Hp} {p C dx : Addr} {fs : List (Str × V)} {v : V} (k : Keep p H H') (hp : H p = some (.ins C dx fs)) (h : Base K H v) : Base K H' v := by
  obtain ⟨t, h, m⟩ := h
  exact ⟨t, W.TyX.keep k hp h, m⟩
/-! ### more rules -/
theorem pe_powC (n : Nat) {X : Cx} {j j2 : Nat} {b : Int} {p1 p2 pos : Pos} (h0 : decide (n ≤ 1000000) = true := by rfl) (hb : decide (b.natAbs < 2 ^ 64) = true := by rfl) :
    PE X (.BinOp (.Constant (.int b) j p1) .Pow (.Constant (.int (n : Int)) j2 p2) pos) (tC (.int (b ^ n))) := by
  refine ⟨fun pins s σ H Q I h => ?_⟩
  have e := (pe_op (X := X) (pos := pos) op_pow (pe_int (i := b) (j := j) (pos := p1)) (pe_int (i := (n : Int)) (j := j2) (pos := p2))).run pins s σ H Q I
  refine e ⟨b, n, rfl, rfl, ⟨by omega, ?_, of_decide_eq_true hb⟩, ?_⟩
  · have := of_decide_eq_true h0
    omega
  · exact h
/-! ### a method by the kind of its owner -/
structure MRow (X : Cx) (m : Str) (E : XK) (C : Addr) (sp : Sp) : Prop where
  c : Cls X.K C
  ex : ∃ (f : Addr) (CX : CXT) (k : Nat) (fd : FuncData) (ps : List Str) (sp0 : Sp) (dvs : List V) (ds : List Value), Meth X.K C m f ∧ FnOk X.prog X.w X.K X.mg X.base CX k f fd ps sp0 ∧ Room k X.A ∧ Binds X.K fd ps ds ∧ Vals dvs ds ∧ Passes CX X E ∧
    ∀ vs H Q, sp vs H Q E → sp0 (vs ++ dvs) H Q E
theorem MRow.of {X : Cx} {m : Str} {E : XK} {C : Addr} {sp : Sp} {f : Addr} {CX : CXT} {k : Nat} {fd : FuncData} {ps : List Str} {sp0 : Sp} {dvs : List V} {ds : List Value} (c : Cls X.K C) (hm : Meth X.K C m f) (F : FnOk X.prog X.w X.K X.mg X.base CX k f fd ps sp0) (hr : Room k X.A)
    (hb : Binds X.K fd ps ds) (hd : Vals dvs ds) (hx : Passes CX X E) (h : ∀ {vs H Q}, sp vs H Q E → sp0 (vs ++ dvs) H Q E) : MRow X m E C sp := ⟨c, f, CX, k, fd, ps, sp0, dvs, ds, hm, F, hr, hb, hd, hx, fun _ _ _ => h⟩
def tPoly {ι : Type} (At : Hp → Addr → ι → Prop) (sp : ι → Sp) (E : XK) (ta : TE) (t : TA) : TE := fun σ H Q => ta σ H fun x H1 => ∃ (i : ι) (p : Addr), x = .ref p ∧ At H1 p i ∧ t σ H1 fun vs H2 => sp i (x :: vs) H2 Q E
theorem pe_methP {X : Cx} {ι : Type} {At : Hp → Addr → ι → Prop} {C : ι → Addr} {sp : ι → Sp} {E : XK} {m : Str} {o : Expr} {ta : TE} {e : Expr} {es : List Expr} {t : TA} {pos apos : Pos} {pl : Sem Bool}
    (hAt : ∀ {H p i}, At H p i → ∃ dx fs, H p = some (.ins (C i) dx fs) ∧ fs.lookup m = none) (R : ∀ i, MRow X m E (C i) (sp i)) (he : PE X o ta) (ha : PA X (e :: es) t)
    (hst : starEach (e :: es) X.env = (false, eval e X.env) :: starEach es X.env := by rfl) (hpl : (backTo pos (starEach es X.env)).any (·.1) = false := by rfl)
    (ht : eval (.Call (.Attribute o m apos) (e :: es) [] pos) X.env = (do
      let ov ← eval o X.env
      standAt apos.atName
      let (f, first) ← holding [ov] (getMethod ov m pl)
      callWith pos f first (backTo pos (starEach (e :: es) X.env)) (backToKw pos (keywordEach [] X.env))) := by rfl) :
    PE X (.Call (.Attribute o m apos) (e :: es) [] pos) (tPoly At sp E ta t) := by
  refine ⟨fun pins s σ H Q I h => ?_⟩
  refine PySem.W.methodCall_KW (pl := pl) (thn (he.run pins s σ H _ I h) fun u s1 ⟨x, H1, I1, rx, i, a, ex, hi, q⟩ => ?_) ht
  subst ex
  obtain rfl : u = Value.ref a := rx
  obtain ⟨dx, fs, ea, l⟩ := hAt hi
  obtain ⟨c, f, CX, k, fd, ps, sp0, dvs, ds, hm, F, hr, hb, hd, hx, hs⟩ := R i
  refine getmeth_ok I1 ea c hm l ?_
  refine PySem.W.callWith_K (first := [.ref a]) (h₀ := X.base) I.ok.mod.kin hm.kp (thn (ha.run pos pins s1 σ H1 _ I1 q) fun us s2 ⟨vs, H2, I2, r, q2⟩ => ⟨I2.kIn, ?_⟩) hst hpl
  exact run_fn (us := .ref a :: us) (vs := .ref a :: vs) F hr hb hd hx I2 (.cons rfl r) (hs _ _ _ q2)
theorem pe_methP0 {X : Cx} {ι : Type} {At : Hp → Addr → ι → Prop} {C : ι → Addr} {sp : ι → Sp} {E : XK} {m : Str} {o : Expr} {ta : TE} {pos apos : Pos} {pl : Sem Bool}
    (hAt : ∀ {H p i}, At H p i → ∃ dx fs, H p = some (.ins (C i) dx fs) ∧ fs.lookup m = none) (R : ∀ i, MRow X m E (C i) (sp i)) (he : PE X o ta)
    (ht : eval (.Call (.Attribute o m apos) [] [] pos) X.env = (do
      let ov ← eval o X.env
      standAt apos.atName
      let (f, first) ← holding [ov] (getMethod ov m pl)
      callWith pos f first (backTo pos (starEach [] X.env)) (backToKw pos (keywordEach [] X.env))) := by rfl) :
    PE X (.Call (.Attribute o m apos) [] [] pos) (tPoly At sp E ta tNil) := by
  refine ⟨fun pins s σ H Q I h => ?_⟩
  refine PySem.W.methodCall_KW (pl := pl) (thn (he.run pins s σ H _ I h) fun u s1 ⟨x, H1, I1, rx, i, a, ex, hi, q⟩ => ?_) ht
  subst ex
  obtain rfl : u = Value.ref a := rx
  obtain ⟨dx, fs, ea, l⟩ := hAt hi
  obtain ⟨c, f, CX, k, fd, ps, sp0, dvs, ds, hm, F, hr, hb, hd, hx, hs⟩ := R i
  refine getmeth_ok I1 ea c hm l ?_
  exact PySem.W.callWith_K0 (first := [.ref a]) I1.kIn hm.kp (run_fn (us := [.ref a]) (vs := [.ref a]) F hr hb hd hx I1 (.cons rfl .nil) (hs _ _ _ q))
end W

namespace W
open PySem PySem.Spec PyProof.Rows L2
def top (i : Nat) : Stmt := PySem.Challenge.pw_wakefew_k09_whole_left_alone.main.body.getD i (.Pass ⟨0, 0, 0, 0⟩)
abbrev s_cell_at : Stmt := top 14
abbrev s_number : Stmt := top 16
abbrev s_is_whole : Stmt := top 5
abbrev s_checked : Stmt := top 7
abbrev s_Once_Rule_init : Stmt := inClass (top 8) 0
abbrev s_Once_init : Stmt := inClass (top 9) 0
abbrev s_Each_Rule_init : Stmt := inClass (top 8) 0
abbrev s_Each_init : Stmt := inClass (top 10) 0
abbrev s_Behind_Rule_init : Stmt := inClass (top 8) 0
abbrev s_Behind_init : Stmt := inClass (top 11) 0
abbrev s_Slowing_Rule_init : Stmt := inClass (top 8) 0
abbrev s_Slowing_Behind_init : Stmt := inClass (top 11) 0
abbrev s_Slowing_init : Stmt := inClass (top 12) 0
abbrev s_rule : Stmt := top 18
abbrev s_many : Stmt := top 17
abbrev s_Once_ended : Stmt := inClass (top 8) 1
abbrev s_Once_begin : Stmt := inClass (top 9) 1
abbrev s_Once_next_of : Stmt := inClass (top 8) 3
abbrev s_Once_follow : Stmt := inClass (top 8) 5
abbrev s_Each_ended : Stmt := inClass (top 8) 1
abbrev s_Each_stretch_at : Stmt := inClass (top 10) 1
abbrev s_Each_next_of : Stmt := inClass (top 10) 3
abbrev s_Each_follow : Stmt := inClass (top 8) 5
abbrev s_Behind_ended : Stmt := inClass (top 8) 1
abbrev s_Behind_gap_at : Stmt := inClass (top 11) 2
abbrev s_Behind_next_of : Stmt := inClass (top 11) 3
abbrev s_Behind_follow : Stmt := inClass (top 8) 5
abbrev s_Slowing_ended : Stmt := inClass (top 8) 1
abbrev s_Slowing_gap_at : Stmt := inClass (top 12) 1
abbrev s_Slowing_next_of : Stmt := inClass (top 11) 3
abbrev s_Slowing_follow : Stmt := inClass (top 8) 5
abbrev s_now : Stmt := top 19
abbrev s_Once_onward : Stmt := inClass (top 8) 4
abbrev s_Once_let_by : Stmt := inClass (top 8) 6
abbrev s_Each_onward : Stmt := inClass (top 10) 4
abbrev s_Each_let_by : Stmt := inClass (top 8) 6
abbrev s_Behind_onward : Stmt := inClass (top 11) 4
abbrev s_Behind_let_by : Stmt := inClass (top 8) 6
abbrev s_Slowing_onward : Stmt := inClass (top 12) 2
abbrev s_Slowing_let_by : Stmt := inClass (top 8) 6
abbrev s_whole : Stmt := top 15
abbrev s_right : Stmt := top 20
abbrev s_one_step : Stmt := top 21
abbrev s_law : Stmt := top 22
structure Txt (K : PySem.W.Frag) (mg : Str → Option Value) : Prop where
  z_len : mg "len" = none
  d_cell_at : FnT K ("_law_cell_at", none) "_law_cell_at" "_law_cell_at" s_cell_at []
  g_cell_at : mg "_law_cell_at" = some (.ref (He.ga K "_law_cell_at"))
  d_number : FnT K ("_law_number", none) "_law_number" "_law_number" s_number []
  g_number : mg "_law_number" = some (.ref (He.ga K "_law_number"))
  c_Once : Cls K (He.ga K "Once")
  n_Once_many : NoAttr K (He.ga K "Once") "many"
  z_int : mg "int" = none
  z_isinstance : mg "isinstance" = none
  z_bool : mg "bool" = none
  d_is_whole : FnT K ("is_whole", none) "is_whole" "is_whole" s_is_whole []
  g_is_whole : mg "is_whole" = some (.ref (He.ga K "is_whole"))
  x_NoRule : PySem.W.excIn K (He.ga K "NoRule") He.veBase "ValueError.__new__" = true ∧ PySem.W.keepIn K (.ref (He.ga K "NoRule")) = true ∧ PySem.W.subIn K (.ref (He.ga K "NoRule")) (.type "BaseException") = some true ∧ PySem.W.typeIn K (.ref (He.ga K "NoRule")) = some (.type "type")
  g_NoRule : mg "NoRule" = some (.ref (He.ga K "NoRule"))
  d_checked : FnT K ("checked", none) "checked" "checked" s_checked []
  g_checked : mg "checked" = some (.ref (He.ga K "checked"))
  d_Once_Rule_init : FnT K ("Rule", some "__init__") "__init__" "Rule.__init__" s_Once_Rule_init []
  q_Rule___init__ : ClsFn K (He.ga K "Rule") "__init__" (He.fAd K ("Rule", some "__init__"))
  g_Rule : mg "Rule" = some (.ref (He.ga K "Rule"))
  n_Once_first : NoAttr K (He.ga K "Once") "first"
  n_Once_last : NoAttr K (He.ga K "Once") "last"
  d_Once_init : FnT K ("Once", some "__init__") "__init__" "Once.__init__" s_Once_init [.non]
  g_Once : mg "Once" = some (.ref (He.ga K "Once"))
  k_Once : Mk K (He.ga K "Once") (He.fAd K ("Once", some "__init__"))
  c_Each : Cls K (He.ga K "Each")
  n_Each_many : NoAttr K (He.ga K "Each") "many"
  d_Each_Rule_init : FnT K ("Rule", some "__init__") "__init__" "Rule.__init__" s_Each_Rule_init []
  n_Each_start : NoAttr K (He.ga K "Each") "start"
  n_Each_step : NoAttr K (He.ga K "Each") "step"
  n_Each_wide : NoAttr K (He.ga K "Each") "wide"
  d_Each_init : FnT K ("Each", some "__init__") "__init__" "Each.__init__" s_Each_init [.int 0, .non]
  g_Each : mg "Each" = some (.ref (He.ga K "Each"))
  k_Each : Mk K (He.ga K "Each") (He.fAd K ("Each", some "__init__"))
  c_Behind : Cls K (He.ga K "Behind")
  n_Behind_many : NoAttr K (He.ga K "Behind") "many"
  d_Behind_Rule_init : FnT K ("Rule", some "__init__") "__init__" "Rule.__init__" s_Behind_Rule_init []
  n_Behind_start : NoAttr K (He.ga K "Behind") "start"
  n_Behind_gap : NoAttr K (He.ga K "Behind") "gap"
  n_Behind_wide : NoAttr K (He.ga K "Behind") "wide"
  d_Behind_init : FnT K ("Behind", some "__init__") "__init__" "Behind.__init__" s_Behind_init [.int 0, .non]
  g_Behind : mg "Behind" = some (.ref (He.ga K "Behind"))
  k_Behind : Mk K (He.ga K "Behind") (He.fAd K ("Behind", some "__init__"))
  c_Slowing : Cls K (He.ga K "Slowing")
  n_Slowing_many : NoAttr K (He.ga K "Slowing") "many"
  d_Slowing_Rule_init : FnT K ("Rule", some "__init__") "__init__" "Rule.__init__" s_Slowing_Rule_init []
  n_Slowing_start : NoAttr K (He.ga K "Slowing") "start"
  n_Slowing_gap : NoAttr K (He.ga K "Slowing") "gap"
  n_Slowing_wide : NoAttr K (He.ga K "Slowing") "wide"
  d_Slowing_Behind_init : FnT K ("Behind", some "__init__") "__init__" "Behind.__init__" s_Slowing_Behind_init [.int 0, .non]
  q_Behind___init__ : ClsFn K (He.ga K "Behind") "__init__" (He.fAd K ("Behind", some "__init__"))
  n_Slowing_most : NoAttr K (He.ga K "Slowing") "most"
  d_Slowing_init : FnT K ("Slowing", some "__init__") "__init__" "Slowing.__init__" s_Slowing_init [.int 0, .non]
  g_Slowing : mg "Slowing" = some (.ref (He.ga K "Slowing"))
  k_Slowing : Mk K (He.ga K "Slowing") (He.fAd K ("Slowing", some "__init__"))
  d_many : FnT K ("_law_many", none) "_law_many" "_law_many" s_many []
  g_many : mg "_law_many" = some (.ref (He.ga K "_law_many"))
  d_rule : FnT K ("_law_rule", none) "_law_rule" "_law_rule" s_rule []
  g_rule : mg "_law_rule" = some (.ref (He.ga K "_law_rule"))
  d_Once_ended : FnT K ("Once", some "ended") "ended" "Rule.ended" s_Once_ended []
  m_Once_ended : Meth K (He.ga K "Once") "ended" (He.fAd K ("Once", some "ended"))
  d_Once_begin : FnT K ("Once", some "begin") "begin" "Once.begin" s_Once_begin []
  m_Once_begin : Meth K (He.ga K "Once") "begin" (He.fAd K ("Once", some "begin"))
  d_Once_next_of : FnT K ("Once", some "next_of") "next_of" "Rule.next_of" s_Once_next_of []
  m_Once_next_of : Meth K (He.ga K "Once") "next_of" (He.fAd K ("Once", some "next_of"))
  d_Each_ended : FnT K ("Each", some "ended") "ended" "Rule.ended" s_Each_ended []
  m_Each_ended : Meth K (He.ga K "Each") "ended" (He.fAd K ("Each", some "ended"))
  d_Each_stretch_at : FnT K ("Each", some "stretch_at") "stretch_at" "Each.stretch_at" s_Each_stretch_at []
  m_Each_stretch_at : Meth K (He.ga K "Each") "stretch_at" (He.fAd K ("Each", some "stretch_at"))
  d_Each_next_of : FnT K ("Each", some "next_of") "next_of" "Each.next_of" s_Each_next_of []
  m_Each_next_of : Meth K (He.ga K "Each") "next_of" (He.fAd K ("Each", some "next_of"))
  d_Behind_ended : FnT K ("Behind", some "ended") "ended" "Rule.ended" s_Behind_ended []
  m_Behind_ended : Meth K (He.ga K "Behind") "ended" (He.fAd K ("Behind", some "ended"))
  d_Behind_gap_at : FnT K ("Behind", some "gap_at") "gap_at" "Behind.gap_at" s_Behind_gap_at []
  m_Behind_gap_at : Meth K (He.ga K "Behind") "gap_at" (He.fAd K ("Behind", some "gap_at"))
  d_Behind_next_of : FnT K ("Behind", some "next_of") "next_of" "Behind.next_of" s_Behind_next_of []
  m_Behind_next_of : Meth K (He.ga K "Behind") "next_of" (He.fAd K ("Behind", some "next_of"))
  d_Slowing_ended : FnT K ("Slowing", some "ended") "ended" "Rule.ended" s_Slowing_ended []
  m_Slowing_ended : Meth K (He.ga K "Slowing") "ended" (He.fAd K ("Slowing", some "ended"))
  z_min : mg "min" = none
  d_Slowing_gap_at : FnT K ("Slowing", some "gap_at") "gap_at" "Slowing.gap_at" s_Slowing_gap_at []
  m_Slowing_gap_at : Meth K (He.ga K "Slowing") "gap_at" (He.fAd K ("Slowing", some "gap_at"))
  d_Slowing_next_of : FnT K ("Slowing", some "next_of") "next_of" "Behind.next_of" s_Slowing_next_of []
  m_Slowing_next_of : Meth K (He.ga K "Slowing") "next_of" (He.fAd K ("Slowing", some "next_of"))
  d_Once_follow : FnT K ("Once", some "follow") "follow" "Rule.follow" s_Once_follow []
  m_Once_follow : Meth K (He.ga K "Once") "follow" (He.fAd K ("Once", some "follow"))
  d_Each_follow : FnT K ("Each", some "follow") "follow" "Rule.follow" s_Each_follow []
  m_Each_follow : Meth K (He.ga K "Each") "follow" (He.fAd K ("Each", some "follow"))
  d_Behind_follow : FnT K ("Behind", some "follow") "follow" "Rule.follow" s_Behind_follow []
  m_Behind_follow : Meth K (He.ga K "Behind") "follow" (He.fAd K ("Behind", some "follow"))
  d_Slowing_follow : FnT K ("Slowing", some "follow") "follow" "Rule.follow" s_Slowing_follow []
  m_Slowing_follow : Meth K (He.ga K "Slowing") "follow" (He.fAd K ("Slowing", some "follow"))
  z_max : mg "max" = none
  d_now : FnT K ("_law_now", none) "_law_now" "_law_now" s_now []
  g_now : mg "_law_now" = some (.ref (He.ga K "_law_now"))
  d_Once_onward : FnT K ("Once", some "onward") "onward" "Rule.onward" s_Once_onward []
  m_Once_onward : Meth K (He.ga K "Once") "onward" (He.fAd K ("Once", some "onward"))
  d_Each_onward : FnT K ("Each", some "onward") "onward" "Each.onward" s_Each_onward []
  m_Each_onward : Meth K (He.ga K "Each") "onward" (He.fAd K ("Each", some "onward"))
  d_Behind_onward : FnT K ("Behind", some "onward") "onward" "Behind.onward" s_Behind_onward []
  m_Behind_onward : Meth K (He.ga K "Behind") "onward" (He.fAd K ("Behind", some "onward"))
  d_Slowing_onward : FnT K ("Slowing", some "onward") "onward" "Slowing.onward" s_Slowing_onward []
  m_Slowing_onward : Meth K (He.ga K "Slowing") "onward" (He.fAd K ("Slowing", some "onward"))
  d_Once_let_by : FnT K ("Once", some "let_by") "let_by" "Rule.let_by" s_Once_let_by []
  m_Once_let_by : Meth K (He.ga K "Once") "let_by" (He.fAd K ("Once", some "let_by"))
  d_Each_let_by : FnT K ("Each", some "let_by") "let_by" "Rule.let_by" s_Each_let_by []
  m_Each_let_by : Meth K (He.ga K "Each") "let_by" (He.fAd K ("Each", some "let_by"))
  d_Behind_let_by : FnT K ("Behind", some "let_by") "let_by" "Rule.let_by" s_Behind_let_by []
  m_Behind_let_by : Meth K (He.ga K "Behind") "let_by" (He.fAd K ("Behind", some "let_by"))
  d_Slowing_let_by : FnT K ("Slowing", some "let_by") "let_by" "Rule.let_by" s_Slowing_let_by []
  m_Slowing_let_by : Meth K (He.ga K "Slowing") "let_by" (He.fAd K ("Slowing", some "let_by"))
  i_Once : InsT K (He.ga K "Once")
  y_Once_Rule : PySem.W.kitOne K (.ref (He.ga K "Once")) (.ref (He.ga K "Rule")) = some true
  i_Each : InsT K (He.ga K "Each")
  y_Each_Rule : PySem.W.kitOne K (.ref (He.ga K "Each")) (.ref (He.ga K "Rule")) = some true
  i_Behind : InsT K (He.ga K "Behind")
  y_Behind_Rule : PySem.W.kitOne K (.ref (He.ga K "Behind")) (.ref (He.ga K "Rule")) = some true
  i_Slowing : InsT K (He.ga K "Slowing")
  y_Slowing_Rule : PySem.W.kitOne K (.ref (He.ga K "Slowing")) (.ref (He.ga K "Rule")) = some true
  z_tuple : mg "tuple" = none
  d_whole : FnT K ("_law_whole", none) "_law_whole" "_law_whole" s_whole []
  g_whole : mg "_law_whole" = some (.ref (He.ga K "_law_whole"))
  d_right : FnT K ("_law_right", none) "_law_right" "_law_right" s_right []
  g_right : mg "_law_right" = some (.ref (He.ga K "_law_right"))
  d_one_step : FnT K ("_law_one_step", none) "_law_one_step" "_law_one_step" s_one_step []
  g_one_step : mg "_law_one_step" = some (.ref (He.ga K "_law_one_step"))
  d_law : FnT K ("law", none) "law" "law" s_law []
  g_law : mg "law" = some (.ref (He.ga K "law"))
/-- the attributes of Behind -/
abbrev fl_Behind (v0 v1 v2 v3 : V) : List (Str × V) := [("many", v0), ("start", v1), ("gap", v2), ("wide", v3)]
theorem lk_Behind_many {v0 v1 v2 v3 : V} : (fl_Behind v0 v1 v2 v3).lookup ("many" : Str) = some v0 := by kernel_rfl
theorem pf_Behind_many {v0 v1 v2 v3 z : V} : putF ("many" : Str) z (fl_Behind v0 v1 v2 v3) = fl_Behind z v1 v2 v3 := by kernel_rfl
theorem lk_Behind_start {v0 v1 v2 v3 : V} : (fl_Behind v0 v1 v2 v3).lookup ("start" : Str) = some v1 := by kernel_rfl
theorem pf_Behind_start {v0 v1 v2 v3 z : V} : putF ("start" : Str) z (fl_Behind v0 v1 v2 v3) = fl_Behind v0 z v2 v3 := by kernel_rfl
theorem lk_Behind_gap {v0 v1 v2 v3 : V} : (fl_Behind v0 v1 v2 v3).lookup ("gap" : Str) = some v2 := by kernel_rfl
theorem pf_Behind_gap {v0 v1 v2 v3 z : V} : putF ("gap" : Str) z (fl_Behind v0 v1 v2 v3) = fl_Behind v0 v1 z v3 := by kernel_rfl
theorem lk_Behind_wide {v0 v1 v2 v3 : V} : (fl_Behind v0 v1 v2 v3).lookup ("wide" : Str) = some v3 := by kernel_rfl
theorem pf_Behind_wide {v0 v1 v2 v3 z : V} : putF ("wide" : Str) z (fl_Behind v0 v1 v2 v3) = fl_Behind v0 v1 v2 z := by kernel_rfl
theorem nl_Behind_ended {v0 v1 v2 v3 : V} : (fl_Behind v0 v1 v2 v3).lookup ("ended" : Str) = none := by kernel_rfl
theorem nl_Behind_gap_at {v0 v1 v2 v3 : V} : (fl_Behind v0 v1 v2 v3).lookup ("gap_at" : Str) = none := by kernel_rfl
theorem nl_Behind_next_of {v0 v1 v2 v3 : V} : (fl_Behind v0 v1 v2 v3).lookup ("next_of" : Str) = none := by kernel_rfl
theorem nl_Behind_follow {v0 v1 v2 v3 : V} : (fl_Behind v0 v1 v2 v3).lookup ("follow" : Str) = none := by kernel_rfl
theorem nl_Behind_onward {v0 v1 v2 v3 : V} : (fl_Behind v0 v1 v2 v3).lookup ("onward" : Str) = none := by kernel_rfl
theorem nl_Behind_let_by {v0 v1 v2 v3 : V} : (fl_Behind v0 v1 v2 v3).lookup ("let_by" : Str) = none := by kernel_rfl
/-- the attributes of Each -/
abbrev fl_Each (v0 v1 v2 v3 : V) : List (Str × V) := [("many", v0), ("start", v1), ("step", v2), ("wide", v3)]
theorem lk_Each_many {v0 v1 v2 v3 : V} : (fl_Each v0 v1 v2 v3).lookup ("many" : Str) = some v0 := by kernel_rfl
theorem pf_Each_many {v0 v1 v2 v3 z : V} : putF ("many" : Str) z (fl_Each v0 v1 v2 v3) = fl_Each z v1 v2 v3 := by kernel_rfl
theorem lk_Each_start {v0 v1 v2 v3 : V} : (fl_Each v0 v1 v2 v3).lookup ("start" : Str) = some v1 := by kernel_rfl
theorem pf_Each_start {v0 v1 v2 v3 z : V} : putF ("start" : Str) z (fl_Each v0 v1 v2 v3) = fl_Each v0 z v2 v3 := by kernel_rfl
theorem lk_Each_step {v0 v1 v2 v3 : V} : (fl_Each v0 v1 v2 v3).lookup ("step" : Str) = some v2 := by kernel_rfl
theorem pf_Each_step {v0 v1 v2 v3 z : V} : putF ("step" : Str) z (fl_Each v0 v1 v2 v3) = fl_Each v0 v1 z v3 := by kernel_rfl
theorem lk_Each_wide {v0 v1 v2 v3 : V} : (fl_Each v0 v1 v2 v3).lookup ("wide" : Str) = some v3 := by kernel_rfl
theorem pf_Each_wide {v0 v1 v2 v3 z : V} : putF ("wide" : Str) z (fl_Each v0 v1 v2 v3) = fl_Each v0 v1 v2 z := by kernel_rfl
theorem nl_Each_ended {v0 v1 v2 v3 : V} : (fl_Each v0 v1 v2 v3).lookup ("ended" : Str) = none := by kernel_rfl
theorem nl_Each_stretch_at {v0 v1 v2 v3 : V} : (fl_Each v0 v1 v2 v3).lookup ("stretch_at" : Str) = none := by kernel_rfl
theorem nl_Each_next_of {v0 v1 v2 v3 : V} : (fl_Each v0 v1 v2 v3).lookup ("next_of" : Str) = none := by kernel_rfl
theorem nl_Each_follow {v0 v1 v2 v3 : V} : (fl_Each v0 v1 v2 v3).lookup ("follow" : Str) = none := by kernel_rfl
theorem nl_Each_onward {v0 v1 v2 v3 : V} : (fl_Each v0 v1 v2 v3).lookup ("onward" : Str) = none := by kernel_rfl
theorem nl_Each_let_by {v0 v1 v2 v3 : V} : (fl_Each v0 v1 v2 v3).lookup ("let_by" : Str) = none := by kernel_rfl
/-- the attributes of Once -/
abbrev fl_Once (v0 v1 v2 : V) : List (Str × V) := [("many", v0), ("first", v1), ("last", v2)]
theorem lk_Once_many {v0 v1 v2 : V} : (fl_Once v0 v1 v2).lookup ("many" : Str) = some v0 := by kernel_rfl
theorem pf_Once_many {v0 v1 v2 z : V} : putF ("many" : Str) z (fl_Once v0 v1 v2) = fl_Once z v1 v2 := by kernel_rfl
theorem lk_Once_first {v0 v1 v2 : V} : (fl_Once v0 v1 v2).lookup ("first" : Str) = some v1 := by kernel_rfl
theorem pf_Once_first {v0 v1 v2 z : V} : putF ("first" : Str) z (fl_Once v0 v1 v2) = fl_Once v0 z v2 := by kernel_rfl
theorem lk_Once_last {v0 v1 v2 : V} : (fl_Once v0 v1 v2).lookup ("last" : Str) = some v2 := by kernel_rfl
theorem pf_Once_last {v0 v1 v2 z : V} : putF ("last" : Str) z (fl_Once v0 v1 v2) = fl_Once v0 v1 z := by kernel_rfl
theorem nl_Once_ended {v0 v1 v2 : V} : (fl_Once v0 v1 v2).lookup ("ended" : Str) = none := by kernel_rfl
theorem nl_Once_begin {v0 v1 v2 : V} : (fl_Once v0 v1 v2).lookup ("begin" : Str) = none := by kernel_rfl
theorem nl_Once_next_of {v0 v1 v2 : V} : (fl_Once v0 v1 v2).lookup ("next_of" : Str) = none := by kernel_rfl
theorem nl_Once_follow {v0 v1 v2 : V} : (fl_Once v0 v1 v2).lookup ("follow" : Str) = none := by kernel_rfl
theorem nl_Once_onward {v0 v1 v2 : V} : (fl_Once v0 v1 v2).lookup ("onward" : Str) = none := by kernel_rfl
theorem nl_Once_let_by {v0 v1 v2 : V} : (fl_Once v0 v1 v2).lookup ("let_by" : Str) = none := by kernel_rfl
/-- the attributes of Slowing -/
abbrev fl_Slowing (v0 v1 v2 v3 v4 : V) : List (Str × V) := [("many", v0), ("start", v1), ("gap", v2), ("wide", v3), ("most", v4)]
theorem lk_Slowing_many {v0 v1 v2 v3 v4 : V} : (fl_Slowing v0 v1 v2 v3 v4).lookup ("many" : Str) = some v0 := by kernel_rfl
theorem pf_Slowing_many {v0 v1 v2 v3 v4 z : V} : putF ("many" : Str) z (fl_Slowing v0 v1 v2 v3 v4) = fl_Slowing z v1 v2 v3 v4 := by kernel_rfl
theorem lk_Slowing_start {v0 v1 v2 v3 v4 : V} : (fl_Slowing v0 v1 v2 v3 v4).lookup ("start" : Str) = some v1 := by kernel_rfl
theorem pf_Slowing_start {v0 v1 v2 v3 v4 z : V} : putF ("start" : Str) z (fl_Slowing v0 v1 v2 v3 v4) = fl_Slowing v0 z v2 v3 v4 := by kernel_rfl
theorem lk_Slowing_gap {v0 v1 v2 v3 v4 : V} : (fl_Slowing v0 v1 v2 v3 v4).lookup ("gap" : Str) = some v2 := by kernel_rfl
theorem pf_Slowing_gap {v0 v1 v2 v3 v4 z : V} : putF ("gap" : Str) z (fl_Slowing v0 v1 v2 v3 v4) = fl_Slowing v0 v1 z v3 v4 := by kernel_rfl
theorem lk_Slowing_wide {v0 v1 v2 v3 v4 : V} : (fl_Slowing v0 v1 v2 v3 v4).lookup ("wide" : Str) = some v3 := by kernel_rfl
theorem pf_Slowing_wide {v0 v1 v2 v3 v4 z : V} : putF ("wide" : Str) z (fl_Slowing v0 v1 v2 v3 v4) = fl_Slowing v0 v1 v2 z v4 := by kernel_rfl
theorem lk_Slowing_most {v0 v1 v2 v3 v4 : V} : (fl_Slowing v0 v1 v2 v3 v4).lookup ("most" : Str) = some v4 := by kernel_rfl
theorem pf_Slowing_most {v0 v1 v2 v3 v4 z : V} : putF ("most" : Str) z (fl_Slowing v0 v1 v2 v3 v4) = fl_Slowing v0 v1 v2 v3 z := by kernel_rfl
theorem nl_Slowing_ended {v0 v1 v2 v3 v4 : V} : (fl_Slowing v0 v1 v2 v3 v4).lookup ("ended" : Str) = none := by kernel_rfl
theorem nl_Slowing_gap_at {v0 v1 v2 v3 v4 : V} : (fl_Slowing v0 v1 v2 v3 v4).lookup ("gap_at" : Str) = none := by kernel_rfl
theorem nl_Slowing_next_of {v0 v1 v2 v3 v4 : V} : (fl_Slowing v0 v1 v2 v3 v4).lookup ("next_of" : Str) = none := by kernel_rfl
theorem nl_Slowing_follow {v0 v1 v2 v3 v4 : V} : (fl_Slowing v0 v1 v2 v3 v4).lookup ("follow" : Str) = none := by kernel_rfl
theorem nl_Slowing_onward {v0 v1 v2 v3 v4 : V} : (fl_Slowing v0 v1 v2 v3 v4).lookup ("onward" : Str) = none := by kernel_rfl
theorem nl_Slowing_let_by {v0 v1 v2 v3 v4 : V} : (fl_Slowing v0 v1 v2 v3 v4).lookup ("let_by" : Str) = none := by kernel_rfl
local macro_rules | `(tactic| walk_at "Behind.many") => `(tactic| refine ⟨_, _, _, _, _, rfl, (by assumption), (‹Txt _ _›).c_Behind, (‹Txt _ _›).n_Behind_many, lk_Behind_many, ?_⟩)
local macro_rules | `(tactic| walk_at "Behind.many=") => `(tactic| refine ⟨_, _, _, _, rfl, (by assumption), (‹Txt _ _›).c_Behind, (‹Txt _ _›).n_Behind_many, few (by kernel_rfl), ?_⟩)
local macro_rules | `(tactic| walk_at "Behind.start") => `(tactic| refine ⟨_, _, _, _, _, rfl, (by assumption), (‹Txt _ _›).c_Behind, (‹Txt _ _›).n_Behind_start, lk_Behind_start, ?_⟩)
local macro_rules | `(tactic| walk_at "Behind.start=") => `(tactic| refine ⟨_, _, _, _, rfl, (by assumption), (‹Txt _ _›).c_Behind, (‹Txt _ _›).n_Behind_start, few (by kernel_rfl), ?_⟩)
local macro_rules | `(tactic| walk_at "Behind.gap") => `(tactic| refine ⟨_, _, _, _, _, rfl, (by assumption), (‹Txt _ _›).c_Behind, (‹Txt _ _›).n_Behind_gap, lk_Behind_gap, ?_⟩)
local macro_rules | `(tactic| walk_at "Behind.gap=") => `(tactic| refine ⟨_, _, _, _, rfl, (by assumption), (‹Txt _ _›).c_Behind, (‹Txt _ _›).n_Behind_gap, few (by kernel_rfl), ?_⟩)
local macro_rules | `(tactic| walk_at "Behind.wide") => `(tactic| refine ⟨_, _, _, _, _, rfl, (by assumption), (‹Txt _ _›).c_Behind, (‹Txt _ _›).n_Behind_wide, lk_Behind_wide, ?_⟩)
local macro_rules | `(tactic| walk_at "Behind.wide=") => `(tactic| refine ⟨_, _, _, _, rfl, (by assumption), (‹Txt _ _›).c_Behind, (‹Txt _ _›).n_Behind_wide, few (by kernel_rfl), ?_⟩)
local macro_rules | `(tactic| walk_at "Each.many") => `(tactic| refine ⟨_, _, _, _, _, rfl, (by assumption), (‹Txt _ _›).c_Each, (‹Txt _ _›).n_Each_many, lk_Each_many, ?_⟩)
local macro_rules | `(tactic| walk_at "Each.many=") => `(tactic| refine ⟨_, _, _, _, rfl, (by assumption), (‹Txt _ _›).c_Each, (‹Txt _ _›).n_Each_many, few (by kernel_rfl), ?_⟩)
local macro_rules | `(tactic| walk_at "Each.start") => `(tactic| refine ⟨_, _, _, _, _, rfl, (by assumption), (‹Txt _ _›).c_Each, (‹Txt _ _›).n_Each_start, lk_Each_start, ?_⟩)
local macro_rules | `(tactic| walk_at "Each.start=") => `(tactic| refine ⟨_, _, _, _, rfl, (by assumption), (‹Txt _ _›).c_Each, (‹Txt _ _›).n_Each_start, few (by kernel_rfl), ?_⟩)
local macro_rules | `(tactic| walk_at "Each.step") => `(tactic| refine ⟨_, _, _, _, _, rfl, (by assumption), (‹Txt _ _›).c_Each, (‹Txt _ _›).n_Each_step, lk_Each_step, ?_⟩)
local macro_rules | `(tactic| walk_at "Each.step=") => `(tactic| refine ⟨_, _, _, _, rfl, (by assumption), (‹Txt _ _›).c_Each, (‹Txt _ _›).n_Each_step, few (by kernel_rfl), ?_⟩)
local macro_rules | `(tactic| walk_at "Each.wide") => `(tactic| refine ⟨_, _, _, _, _, rfl, (by assumption), (‹Txt _ _›).c_Each, (‹Txt _ _›).n_Each_wide, lk_Each_wide, ?_⟩)
local macro_rules | `(tactic| walk_at "Each.wide=") => `(tactic| refine ⟨_, _, _, _, rfl, (by assumption), (‹Txt _ _›).c_Each, (‹Txt _ _›).n_Each_wide, few (by kernel_rfl), ?_⟩)
local macro_rules | `(tactic| walk_at "Once.many") => `(tactic| refine ⟨_, _, _, _, _, rfl, (by assumption), (‹Txt _ _›).c_Once, (‹Txt _ _›).n_Once_many, lk_Once_many, ?_⟩)
local macro_rules | `(tactic| walk_at "Once.many=") => `(tactic| refine ⟨_, _, _, _, rfl, (by assumption), (‹Txt _ _›).c_Once, (‹Txt _ _›).n_Once_many, few (by kernel_rfl), ?_⟩)
local macro_rules | `(tactic| walk_at "Once.first") => `(tactic| refine ⟨_, _, _, _, _, rfl, (by assumption), (‹Txt _ _›).c_Once, (‹Txt _ _›).n_Once_first, lk_Once_first, ?_⟩)
local macro_rules | `(tactic| walk_at "Once.first=") => `(tactic| refine ⟨_, _, _, _, rfl, (by assumption), (‹Txt _ _›).c_Once, (‹Txt _ _›).n_Once_first, few (by kernel_rfl), ?_⟩)
local macro_rules | `(tactic| walk_at "Once.last") => `(tactic| refine ⟨_, _, _, _, _, rfl, (by assumption), (‹Txt _ _›).c_Once, (‹Txt _ _›).n_Once_last, lk_Once_last, ?_⟩)
local macro_rules | `(tactic| walk_at "Once.last=") => `(tactic| refine ⟨_, _, _, _, rfl, (by assumption), (‹Txt _ _›).c_Once, (‹Txt _ _›).n_Once_last, few (by kernel_rfl), ?_⟩)
local macro_rules | `(tactic| walk_at "Slowing.many") => `(tactic| refine ⟨_, _, _, _, _, rfl, (by assumption), (‹Txt _ _›).c_Slowing, (‹Txt _ _›).n_Slowing_many, lk_Slowing_many, ?_⟩)
local macro_rules | `(tactic| walk_at "Slowing.many=") => `(tactic| refine ⟨_, _, _, _, rfl, (by assumption), (‹Txt _ _›).c_Slowing, (‹Txt _ _›).n_Slowing_many, few (by kernel_rfl), ?_⟩)
local macro_rules | `(tactic| walk_at "Slowing.start") => `(tactic| refine ⟨_, _, _, _, _, rfl, (by assumption), (‹Txt _ _›).c_Slowing, (‹Txt _ _›).n_Slowing_start, lk_Slowing_start, ?_⟩)
local macro_rules | `(tactic| walk_at "Slowing.start=") => `(tactic| refine ⟨_, _, _, _, rfl, (by assumption), (‹Txt _ _›).c_Slowing, (‹Txt _ _›).n_Slowing_start, few (by kernel_rfl), ?_⟩)
local macro_rules | `(tactic| walk_at "Slowing.gap") => `(tactic| refine ⟨_, _, _, _, _, rfl, (by assumption), (‹Txt _ _›).c_Slowing, (‹Txt _ _›).n_Slowing_gap, lk_Slowing_gap, ?_⟩)
local macro_rules | `(tactic| walk_at "Slowing.gap=") => `(tactic| refine ⟨_, _, _, _, rfl, (by assumption), (‹Txt _ _›).c_Slowing, (‹Txt _ _›).n_Slowing_gap, few (by kernel_rfl), ?_⟩)
local macro_rules | `(tactic| walk_at "Slowing.wide") => `(tactic| refine ⟨_, _, _, _, _, rfl, (by assumption), (‹Txt _ _›).c_Slowing, (‹Txt _ _›).n_Slowing_wide, lk_Slowing_wide, ?_⟩)
local macro_rules | `(tactic| walk_at "Slowing.wide=") => `(tactic| refine ⟨_, _, _, _, rfl, (by assumption), (‹Txt _ _›).c_Slowing, (‹Txt _ _›).n_Slowing_wide, few (by kernel_rfl), ?_⟩)
local macro_rules | `(tactic| walk_at "Slowing.most") => `(tactic| refine ⟨_, _, _, _, _, rfl, (by assumption), (‹Txt _ _›).c_Slowing, (‹Txt _ _›).n_Slowing_most, lk_Slowing_most, ?_⟩)
local macro_rules | `(tactic| walk_at "Slowing.most=") => `(tactic| refine ⟨_, _, _, _, rfl, (by assumption), (‹Txt _ _›).c_Slowing, (‹Txt _ _›).n_Slowing_most, few (by kernel_rfl), ?_⟩)
theorem kt_int_int {K : PySem.W.Frag} : PySem.W.kitOne K (.type "int") (.type "int") = some true := kit_ty (by decide +kernel)
theorem kt_int_bool {K : PySem.W.Frag} : PySem.W.kitOne K (.type "int") (.type "bool") = some false := kit_ty (by decide +kernel)
theorem kt_int_str {K : PySem.W.Frag} : PySem.W.kitOne K (.type "int") (.type "str") = some false := kit_ty (by decide +kernel)
theorem kt_int_list {K : PySem.W.Frag} : PySem.W.kitOne K (.type "int") (.type "list") = some false := kit_ty (by decide +kernel)
theorem kt_int_tuple {K : PySem.W.Frag} : PySem.W.kitOne K (.type "int") (.type "tuple") = some false := kit_ty (by decide +kernel)
theorem kt_int_dict {K : PySem.W.Frag} : PySem.W.kitOne K (.type "int") (.type "dict") = some false := kit_ty (by decide +kernel)
theorem kt_bool_int {K : PySem.W.Frag} : PySem.W.kitOne K (.type "bool") (.type "int") = some true := kit_ty (by decide +kernel)
theorem kt_bool_bool {K : PySem.W.Frag} : PySem.W.kitOne K (.type "bool") (.type "bool") = some true := kit_ty (by decide +kernel)
theorem kt_bool_str {K : PySem.W.Frag} : PySem.W.kitOne K (.type "bool") (.type "str") = some false := kit_ty (by decide +kernel)
theorem kt_bool_list {K : PySem.W.Frag} : PySem.W.kitOne K (.type "bool") (.type "list") = some false := kit_ty (by decide +kernel)
theorem kt_bool_tuple {K : PySem.W.Frag} : PySem.W.kitOne K (.type "bool") (.type "tuple") = some false := kit_ty (by decide +kernel)
theorem kt_bool_dict {K : PySem.W.Frag} : PySem.W.kitOne K (.type "bool") (.type "dict") = some false := kit_ty (by decide +kernel)
theorem kt_str_int {K : PySem.W.Frag} : PySem.W.kitOne K (.type "str") (.type "int") = some false := kit_ty (by decide +kernel)
theorem kt_str_bool {K : PySem.W.Frag} : PySem.W.kitOne K (.type "str") (.type "bool") = some false := kit_ty (by decide +kernel)
theorem kt_str_str {K : PySem.W.Frag} : PySem.W.kitOne K (.type "str") (.type "str") = some true := kit_ty (by decide +kernel)
theorem kt_str_list {K : PySem.W.Frag} : PySem.W.kitOne K (.type "str") (.type "list") = some false := kit_ty (by decide +kernel)
theorem kt_str_tuple {K : PySem.W.Frag} : PySem.W.kitOne K (.type "str") (.type "tuple") = some false := kit_ty (by decide +kernel)
theorem kt_str_dict {K : PySem.W.Frag} : PySem.W.kitOne K (.type "str") (.type "dict") = some false := kit_ty (by decide +kernel)
theorem kt_NoneType_int {K : PySem.W.Frag} : PySem.W.kitOne K (.type "NoneType") (.type "int") = some false := kit_ty (by decide +kernel)
theorem kt_NoneType_bool {K : PySem.W.Frag} : PySem.W.kitOne K (.type "NoneType") (.type "bool") = some false := kit_ty (by decide +kernel)
theorem kt_NoneType_str {K : PySem.W.Frag} : PySem.W.kitOne K (.type "NoneType") (.type "str") = some false := kit_ty (by decide +kernel)
theorem kt_NoneType_list {K : PySem.W.Frag} : PySem.W.kitOne K (.type "NoneType") (.type "list") = some false := kit_ty (by decide +kernel)
theorem kt_NoneType_tuple {K : PySem.W.Frag} : PySem.W.kitOne K (.type "NoneType") (.type "tuple") = some false := kit_ty (by decide +kernel)
theorem kt_NoneType_dict {K : PySem.W.Frag} : PySem.W.kitOne K (.type "NoneType") (.type "dict") = some false := kit_ty (by decide +kernel)
theorem kt_list_int {K : PySem.W.Frag} : PySem.W.kitOne K (.type "list") (.type "int") = some false := kit_ty (by decide +kernel)
theorem kt_list_bool {K : PySem.W.Frag} : PySem.W.kitOne K (.type "list") (.type "bool") = some false := kit_ty (by decide +kernel)
theorem kt_list_str {K : PySem.W.Frag} : PySem.W.kitOne K (.type "list") (.type "str") = some false := kit_ty (by decide +kernel)
theorem kt_list_list {K : PySem.W.Frag} : PySem.W.kitOne K (.type "list") (.type "list") = some true := kit_ty (by decide +kernel)
theorem kt_list_tuple {K : PySem.W.Frag} : PySem.W.kitOne K (.type "list") (.type "tuple") = some false := kit_ty (by decide +kernel)
theorem kt_list_dict {K : PySem.W.Frag} : PySem.W.kitOne K (.type "list") (.type "dict") = some false := kit_ty (by decide +kernel)
theorem kt_tuple_int {K : PySem.W.Frag} : PySem.W.kitOne K (.type "tuple") (.type "int") = some false := kit_ty (by decide +kernel)
theorem kt_tuple_bool {K : PySem.W.Frag} : PySem.W.kitOne K (.type "tuple") (.type "bool") = some false := kit_ty (by decide +kernel)
theorem kt_tuple_str {K : PySem.W.Frag} : PySem.W.kitOne K (.type "tuple") (.type "str") = some false := kit_ty (by decide +kernel)
theorem kt_tuple_list {K : PySem.W.Frag} : PySem.W.kitOne K (.type "tuple") (.type "list") = some false := kit_ty (by decide +kernel)
theorem kt_tuple_tuple {K : PySem.W.Frag} : PySem.W.kitOne K (.type "tuple") (.type "tuple") = some true := kit_ty (by decide +kernel)
theorem kt_tuple_dict {K : PySem.W.Frag} : PySem.W.kitOne K (.type "tuple") (.type "dict") = some false := kit_ty (by decide +kernel)
theorem kt_dict_int {K : PySem.W.Frag} : PySem.W.kitOne K (.type "dict") (.type "int") = some false := kit_ty (by decide +kernel)
theorem kt_dict_bool {K : PySem.W.Frag} : PySem.W.kitOne K (.type "dict") (.type "bool") = some false := kit_ty (by decide +kernel)
theorem kt_dict_str {K : PySem.W.Frag} : PySem.W.kitOne K (.type "dict") (.type "str") = some false := kit_ty (by decide +kernel)
theorem kt_dict_list {K : PySem.W.Frag} : PySem.W.kitOne K (.type "dict") (.type "list") = some false := kit_ty (by decide +kernel)
theorem kt_dict_tuple {K : PySem.W.Frag} : PySem.W.kitOne K (.type "dict") (.type "tuple") = some false := kit_ty (by decide +kernel)
theorem kt_dict_dict {K : PySem.W.Frag} : PySem.W.kitOne K (.type "dict") (.type "dict") = some true := kit_ty (by decide +kernel)
theorem szN {α : Type} {xs : List α} (h : Nat.ble xs.length 100 = true) : xs.length ≤ sizeLine := Nat.le_trans (Nat.le_of_ble_eq_true h) (by decide)
theorem szL {α : Type} {xs : List α} (h : Nat.ble xs.length 100 = true) : xs.length < sizeLine := Nat.lt_of_le_of_lt (Nat.le_of_ble_eq_true h) (by decide)
theorem lg {n : Int} (h : n.natAbs < 2 ^ 200) : n.natAbs.log2 < 1920 := PySem.Flt.log2_lt_of (by decide) (Nat.lt_of_lt_of_le h (Nat.pow_le_pow_right (by decide) (by decide : 200 ≤ 1920)))
theorem mulC {i j : Int} (h : i.natAbs.log2 + j.natAbs.log2 < 1000000) : CMulW i j := h
local macro_rules | `(tactic| walk_at "side") => `(tactic| first
  | (assumption; done)
  | decide +kernel
  | (dsimp only; decide +kernel)
  | exact ⟨by decide +kernel, by decide +kernel⟩
  | exact Or.inl ⟨by decide +kernel, by decide +kernel⟩
  | exact Or.inr ⟨by decide +kernel, by decide +kernel⟩
  | exact mulC (by decide +kernel)
  | (dsimp only; omega))
local macro_rules | `(tactic| walk_at "rd1") => `(tactic| first
  | refine ⟨_, rfl, ?_⟩
  | refine ⟨_, _, rfl, rfl, And.intro (by walk_at "side") ?_⟩
  | refine ⟨_, _, rfl, rfl, ?_⟩
  | refine ⟨rfl, ?_⟩
  | refine ⟨szN rfl, ?_⟩
  | refine ⟨_, _, rfl, ?_⟩
  | refine ⟨_, _, rfl, SqT.of (by assumption), rfl, ?_⟩
  | refine ⟨_, _, rfl, .inr (SqT.of (by assumption)), ?_⟩
  | refine ⟨_, _, rfl, .inl (by assumption), ?_⟩
  | refine ⟨_, _, rfl, .inl (SqL.of (by assumption)), ?_⟩
  | refine ⟨_, _, _, _, rfl, rfl, SqT.of (by assumption), rfl, ?_⟩
  | ((with_reducible show (ite (_ = true) _ _)); first | refine iteF ?_ | refine iteT ?_)
  | refine ⟨_, _, _, _, _, rfl, .ty _, (by walk_at "ty"), (by walk_at "kit"), ?_⟩)
local macro_rules | `(tactic| walk_at "ty") => `(tactic| first
  | (assumption; done)
  | exact .base (.bl _)
  | exact .base (.int _)
  | exact .base (.str _)
  | exact .base .non
  | exact .base (.tup (by assumption))
  | exact .base (.lst (by assumption)))
local macro_rules | `(tactic| walk_at "kit") => `(tactic| first
  | (assumption; done)
  | exact kt_int_int
  | exact kt_int_bool
  | exact kt_int_str
  | exact kt_int_list
  | exact kt_int_tuple
  | exact kt_int_dict
  | exact kt_bool_int
  | exact kt_bool_bool
  | exact kt_bool_str
  | exact kt_bool_list
  | exact kt_bool_tuple
  | exact kt_bool_dict
  | exact kt_str_int
  | exact kt_str_bool
  | exact kt_str_str
  | exact kt_str_list
  | exact kt_str_tuple
  | exact kt_str_dict
  | exact kt_NoneType_int
  | exact kt_NoneType_bool
  | exact kt_NoneType_str
  | exact kt_NoneType_list
  | exact kt_NoneType_tuple
  | exact kt_NoneType_dict
  | exact kt_list_int
  | exact kt_list_bool
  | exact kt_list_str
  | exact kt_list_list
  | exact kt_list_tuple
  | exact kt_list_dict
  | exact kt_tuple_int
  | exact kt_tuple_bool
  | exact kt_tuple_str
  | exact kt_tuple_list
  | exact kt_tuple_tuple
  | exact kt_tuple_dict
  | exact kt_dict_int
  | exact kt_dict_bool
  | exact kt_dict_str
  | exact kt_dict_list
  | exact kt_dict_tuple
  | exact kt_dict_dict)
local macro_rules | `(tactic| walk_at "rd") => `(tactic| repeat (walk_at "rd1"))
def goodN (v : V) (least : Int) : Prop := ∃ i, v = .int i ∧ least ≤ i
def goodM (v : V) : Prop := v = .non ∨ goodN v 1
def vO : Option Int → V
  | none => .non
  | some i => .int i
def endedM (m : Option Int) (n : Int) : Bool := match m with
  | none => false
  | some i => decide (i ≤ n)
theorem base_vO {K : PySem.W.Frag} {H : Hp} (m : Option Int) : Base K H (vO m) := by
  cases m with
  | none => exact base_non
  | some i => exact base_int
theorem scal_vO (m : Option Int) : scal (vO m) (vO m) = true := by
  cases m <;> rfl
theorem vO_non (m : Option Int) : decide (vO m = .non) = m.isNone := by
  cases m <;> simp [vO]
theorem goodM_vO {m : Option Int} (h : ∀ i, m = some i → 1 ≤ i) : goodM (vO m) := by
  cases m with
  | none => exact .inl rfl
  | some i => exact .inr ⟨i, rfl, h i rfl⟩
def nxt (mo g : Int) : Int := if mo < 2 * g then mo else 2 * g
def iter (mo : Int) : Nat → Int → Int
  | 0, g => g
  | k + 1, g => iter mo k (nxt mo g)
theorem nxt_bd {mo g : Int} (h1 : 1 ≤ g) (h2 : g ≤ mo) : g ≤ nxt mo g ∧ nxt mo g ≤ mo := by
  unfold nxt
  split <;> omega
theorem nxt_fix {mo : Int} (h : 1 ≤ mo) : nxt mo mo = mo := by
  unfold nxt
  rw [if_pos (by omega)]
theorem iter_fix {mo : Int} (h : 1 ≤ mo) : ∀ k, iter mo k mo = mo
  | 0 => rfl
  | k + 1 => by
    show iter mo k (nxt mo mo) = mo
    rw [nxt_fix h]
    exact iter_fix h k
theorem iter_bd {mo : Int} : ∀ (k : Nat) {g : Int}, 1 ≤ g → g ≤ mo → g ≤ iter mo k g ∧ iter mo k g ≤ mo
  | 0, g, h1, h2 => ⟨Int.le_refl _, h2⟩
  | k + 1, g, h1, h2 => by
    have a := nxt_bd h1 h2
    have b := iter_bd k (g := nxt mo g) (by omega) a.2
    exact ⟨Int.le_trans a.1 b.1, b.2⟩
theorem iter_succ {mo : Int} : ∀ (k : Nat) (g : Int), iter mo (k + 1) g = nxt mo (iter mo k g)
  | 0, g => rfl
  | k + 1, g => iter_succ k (nxt mo g)
/-- the four kinds of rules -/
inductive RD where
  | once (x y : Int) | each (s st w : Int) (m : Option Int) | behind (s g w : Int) (m : Option Int) | slow (s g mo w : Int) (m : Option Int)
def RD.many : RD → Option Int
  | .once _ _ => some 1
  | .each _ _ _ m => m
  | .behind _ _ _ m => m
  | .slow _ _ _ _ m => m
def RD.wide : RD → Int
  | .once x y => y - x
  | .each _ _ w _ => w
  | .behind _ _ w _ => w
  | .slow _ _ _ w _ => w
/-- the stretch of time n + 1, where time n was settled at z -/
def RD.next : RD → Int → Int → Int × Int
  | .once x y, _, _ => (x, y)
  | .each s st w _, n, _ => (s + (n + 1) * st, s + (n + 1) * st + w)
  | .behind _ g w _, _, z => (z + g, z + g + w)
  | .slow _ g mo w _, n, z => (z + iter mo n.toNat g, z + iter mo n.toNat g + w)
def RD.big : Int := 2 ^ 140
def RD.ok : RD → Prop
  | .once x y => 0 ≤ x ∧ x ≤ y ∧ y < 2 ^ 140
  | .each s st w m => 0 ≤ s ∧ s < 2 ^ 140 ∧ 1 ≤ st ∧ st < 2 ^ 140 ∧ 0 ≤ w ∧ w < st ∧ ∀ i, m = some i → 1 ≤ i
  | .behind s g w m => 0 ≤ s ∧ s < 2 ^ 140 ∧ 1 ≤ g ∧ g < 2 ^ 140 ∧ 0 ≤ w ∧ w < 2 ^ 140 ∧ ∀ i, m = some i → 1 ≤ i
  | .slow s g mo w m => 0 ≤ s ∧ s < 2 ^ 140 ∧ 1 ≤ g ∧ g ≤ mo ∧ mo < 2 ^ 140 ∧ 0 ≤ w ∧ w < 2 ^ 140 ∧ ∀ i, m = some i → 1 ≤ i
/-- the end of the k-th time behind n, which was settled at l, all let by -/
def RD.ends (r : RD) : Nat → Int → Int → Int
  | 0, _, l => l
  | k + 1, n, l => RD.ends r k (n + 1) (r.next n l).2
theorem next_wide (r : RD) (n l : Int) : (r.next n l).1 = (r.next n l).2 - r.wide := by
  cases r <;> simp only [RD.next, RD.wide] <;> omega
/-- where a bell goes on that was left alone: the steps -/
inductive LB (r : RD) (now : Int) : Int → Int → Int × Option (Int × Int) → Prop
  | over {n l i : Int} (h : r.many = some i) (e : endedM r.many (n + 1) = true) : LB r now n l (i, none)
  | hit {n l : Int} (e : endedM r.many (n + 1) = false) (h : now < (r.next n l).2) : LB r now n l (n + 1, some (r.next n l))
  | step {n l : Int} {q : Int × Option (Int × Int)} (e : endedM r.many (n + 1) = false) (h : (r.next n l).2 ≤ now) (k : LB r now (n + 1) (r.next n l).2 q) : LB r now n l q
theorem LB.inj {r : RD} {now n l : Int} {p : Int × Option (Int × Int)} (h : LB r now n l p) : ∀ {q}, LB r now n l q → p = q := by
  induction h with
  | over h e =>
    intro q k
    cases k with
    | over h2 _ => rw [h] at h2; cases h2; rfl
    | hit e2 _ => rw [e] at e2; cases e2
    | step e2 _ _ => rw [e] at e2; cases e2
  | hit e h =>
    intro q k
    cases k with
    | over _ e2 => rw [e] at e2; cases e2
    | hit _ _ => rfl
    | step _ h2 _ => omega
  | step e h _ ih =>
    intro q k
    cases k with
    | over _ e2 => rw [e] at e2; cases e2
    | hit _ h2 => omega
    | step _ _ k2 => exact ih k2
theorem ended_some {m : Option Int} {n : Int} (h : endedM m n = true) : ∃ i, m = some i ∧ i ≤ n := by
  cases m with
  | none => cases h
  | some i => exact ⟨i, rfl, of_decide_eq_true h⟩
theorem ended_mono {m : Option Int} {n k : Int} (h : endedM m n = true) (hk : n ≤ k) : endedM m k = true := by
  obtain ⟨i, rfl, hi⟩ := ended_some h
  exact decide_eq_true (by omega)
/-- what onward tells, cut by many -/
def cutM (r : RD) (n e : Int) : Int × Option (Int × Int) := match r.many with
  | none => (n, some (e - r.wide, e))
  | some i => if i ≤ n then (i, none) else (n, some (e - r.wide, e))
theorem cutM_ended {r : RD} {n e i : Int} (h : r.many = some i) (hi : i ≤ n) : cutM r n e = (i, none) := by
  unfold cutM
  rw [h]
  exact if_pos hi
theorem cutM_not {r : RD} {n e : Int} (h : endedM r.many n = false) : cutM r n e = (n, some (e - r.wide, e)) := by
  unfold cutM
  cases hm : r.many with
  | none => rfl
  | some i =>
    rw [hm] at h
    exact if_neg (of_decide_eq_false h)
theorem LB_walk {r : RD} {now : Int} : ∀ (k : Nat) {n l : Int}, (∀ j, j < k → r.ends (j + 1) n l ≤ now) → now < r.ends (k + 1) n l → LB r now n l (cutM r (n + k + 1) (r.ends (k + 1) n l))
  | 0, n, l, _, h => by
    have h1 : now < (r.next n l).2 := h
    cases e : endedM r.many (n + 1) with
    | true =>
      obtain ⟨i, hm, hi⟩ := ended_some e
      rw [cutM_ended hm (by omega)]
      exact .over hm e
    | false =>
      rw [cutM_not (by rw [← e]; congr 1; omega)]
      have q : LB r now n l (n + 1, some (r.next n l)) := .hit e h1
      have e1 : (n + ((0 : Nat) : Int) + 1) = n + 1 := by omega
      have e2 : r.ends (0 + 1) n l = (r.next n l).2 := rfl
      rw [e1, e2, ← next_wide]
      exact q
  | k + 1, n, l, hl, h => by
    have h0 : (r.next n l).2 ≤ now := hl 0 (by omega)
    cases e : endedM r.many (n + 1) with
    | true =>
      obtain ⟨i, hm, hi⟩ := ended_some e
      rw [cutM_ended hm (by omega)]
      exact .over hm e
    | false =>
      have ih := LB_walk k (n := n + 1) (l := (r.next n l).2) (fun j hj => hl (j + 1) (by omega)) h
      have e1 : n + 1 + (k : Int) + 1 = n + ((k + 1 : Nat) : Int) + 1 := by omega
      rw [e1] at ih
      exact .step e h0 ih
/-! closed forms -/
theorem ends_each {s st w : Int} {m : Option Int} : ∀ (k : Nat) (n l : Int), (RD.each s st w m).ends (k + 1) n l = s + (n + k + 1) * st + w
  | 0, n, l => by
    show s + (n + 1) * st + w = _
    congr 3
    omega
  | k + 1, n, l => by
    have ih := ends_each (s := s) (st := st) (w := w) (m := m) k (n + 1) ((RD.each s st w m).next n l).2
    show (RD.each s st w m).ends (k + 1) (n + 1) _ = _
    rw [ih]
    congr 3
    omega
theorem ends_behind {s g w : Int} {m : Option Int} : ∀ (k : Nat) (n l : Int), (RD.behind s g w m).ends k n l = l + k * (g + w)
  | 0, n, l => by
    show l = _
    omega
  | k + 1, n, l => by
    show (RD.behind s g w m).ends k (n + 1) (l + g + w) = _
    rw [ends_behind k]
    have : ((k + 1 : Nat) : Int) * (g + w) = k * (g + w) + (g + w) := by
      rw [show ((k + 1 : Nat) : Int) = (k : Int) + 1 by omega, Int.add_mul, Int.one_mul]
    omega
theorem ends_add (r : RD) : ∀ (i j : Nat) (n l : Int), r.ends (i + j) n l = r.ends j (n + i) (r.ends i n l)
  | 0, j, n, l => by
    show r.ends (0 + j) n l = r.ends j (n + (0 : Nat)) l
    rw [Nat.zero_add, show n + ((0 : Nat) : Int) = n by omega]
  | i + 1, j, n, l => by
    rw [show i + 1 + j = (i + j) + 1 by omega]
    show r.ends (i + j) (n + 1) (r.next n l).2 = r.ends j (n + ((i + 1 : Nat) : Int)) (r.ends i (n + 1) (r.next n l).2)
    rw [ends_add r i j, show n + ((i + 1 : Nat) : Int) = n + 1 + (i : Int) by omega]
theorem ends_succ (r : RD) (i : Nat) (n l : Int) : r.ends (i + 1) n l = (r.next (n + i) (r.ends i n l)).2 := by
  rw [ends_add r i 1]
  rfl
theorem iter_top {mo g : Int} (h : 1 ≤ mo) {n : Nat} (e : iter mo n g = mo) : ∀ j, iter mo (n + j) g = mo
  | 0 => e
  | j + 1 => by
    rw [show n + (j + 1) = (n + j) + 1 by omega, iter_succ, iter_top h e j, nxt_fix h]
theorem ends_slow_top {s g mo w : Int} {m : Option Int} (h : 1 ≤ mo) : ∀ (k : Nat) {n l : Int}, 0 ≤ n → iter mo n.toNat g = mo → (RD.slow s g mo w m).ends k n l = l + k * (mo + w)
  | 0, n, l, _, _ => by
    show l = _
    omega
  | k + 1, n, l, hn, e => by
    show (RD.slow s g mo w m).ends k (n + 1) (l + iter mo n.toNat g + w) = _
    have e2 : iter mo (n + 1).toNat g = mo := by
      rw [show (n + 1).toNat = n.toNat + 1 by omega]
      exact iter_top h e 1
    rw [ends_slow_top h k (by omega) e2, e]
    have : ((k + 1 : Nat) : Int) * (mo + w) = k * (mo + w) + (mo + w) := by
      rw [show ((k + 1 : Nat) : Int) = (k : Int) + 1 by omega, Int.add_mul, Int.one_mul]
    omega
/-! rounds: so many as end by now, and one more -/
theorem rounds {l now c : Int} (hc : 1 ≤ c) (h : l ≤ now) : ∃ k : Nat, (now - l) / c + 1 = (k : Int) + 1 ∧ now < l + ((k : Int) + 1) * c ∧ ∀ j : Nat, j < k → l + ((j : Int) + 1) * c ≤ now := by
  have h0 : 0 ≤ (now - l) / c := Int.ediv_nonneg (by omega) (by omega)
  have h1 : (now - l) / c * c ≤ now - l := Int.ediv_mul_le _ (by omega)
  have h2 : now - l < ((now - l) / c + 1) * c := Int.lt_ediv_add_one_mul_self _ (by omega)
  refine ⟨((now - l) / c).toNat, by omega, ?_, fun j hj => ?_⟩
  · rw [Int.toNat_of_nonneg h0]
    omega
  · have h3 : ((j : Int) + 1) ≤ (now - l) / c := by omega
    have h4 := Int.mul_le_mul_of_nonneg_right h3 (show 0 ≤ c by omega)
    omega
theorem each_found {s st w n now : Int} (hs : 1 ≤ st) : ∃ k : Nat, (if n < (now - s - w) / st then (now - s - w) / st else n) + 1 = n + k + 1 ∧ now < s + (n + k + 1) * st + w ∧ ∀ j : Nat, j < k → s + (n + j + 1) * st + w ≤ now := by
  have h1 : (now - s - w) / st * st ≤ now - s - w := Int.ediv_mul_le _ (by omega)
  have h2 : now - s - w < ((now - s - w) / st + 1) * st := Int.lt_ediv_add_one_mul_self _ (by omega)
  by_cases h : n < (now - s - w) / st
  · refine ⟨((now - s - w) / st - n).toNat, ?_, ?_, fun j hj => ?_⟩
    · rw [if_pos h]
      omega
    · have e : n + (((now - s - w) / st - n).toNat : Int) + 1 = (now - s - w) / st + 1 := by omega
      rw [e]
      omega
    · have h3 : n + (j : Int) + 1 ≤ (now - s - w) / st := by omega
      have h4 := Int.mul_le_mul_of_nonneg_right h3 (show 0 ≤ st by omega)
      omega
  · refine ⟨0, ?_, ?_, fun j hj => absurd hj (by omega)⟩
    · rw [if_neg h]
      omega
    · have h3 : (now - s - w) / st + 1 ≤ n + ((0 : Nat) : Int) + 1 := by omega
      have h4 := Int.mul_le_mul_of_nonneg_right h3 (show 0 ≤ st by omega)
      omega
/-! from one time on to a later one -/
def Later (r : RD) (to : Int) (q : Int × Option (Int × Int)) : Int × Option (Int × Int) → Prop
  | (i, none) => q = (i, none)
  | (n', some st) => if st.2 ≤ to then LB r to n' st.2 q else q = (n', some st)
theorem LB.later {r : RD} {now n l : Int} {p : Int × Option (Int × Int)} (h : LB r now n l p) : ∀ {to : Int}, now ≤ to → ∀ {q}, LB r to n l q → Later r to q p := by
  induction h with
  | over h e =>
    intro to ht q k
    exact (k.inj (.over h e))
  | @hit n l e h =>
    intro to ht q k
    show if (r.next n l).2 ≤ to then LB r to (n + 1) (r.next n l).2 q else q = (n + 1, some (r.next n l))
    by_cases c : (r.next n l).2 ≤ to
    · rw [if_pos c]
      cases k with
      | over _ e2 => rw [e] at e2; cases e2
      | hit _ h2 => omega
      | step _ _ k2 => exact k2
    · rw [if_neg c]
      exact k.inj (.hit e (by omega))
  | step e h k ih =>
    intro to ht q k2
    cases k2 with
    | over _ e2 => rw [e] at e2; cases e2
    | hit _ h2 => omega
    | step _ _ k3 => exact ih ht k3
/-- what comes is right -/
def Right (r : RD) (now n : Int) : Int × Option (Int × Int) → Prop
  | (i, none) => r.many = some i
  | (n', some st) => n < n' ∧ endedM r.many n' = false ∧ st.1 = st.2 - r.wide ∧ now < st.2
theorem LB.right {r : RD} {now n l : Int} {p : Int × Option (Int × Int)} (h : LB r now n l p) : Right r now n p := by
  induction h with
  | over h e => exact h
  | hit e h => exact ⟨by omega, e, next_wide _ _ _, h⟩
  | @step n l q e h k ih =>
    obtain ⟨n', o⟩ := q
    cases o with
    | none => exact ih
    | some st => exact ⟨by have := ih.1; omega, ih.2⟩
theorem nxt_gt {mo g : Int} (h1 : 1 ≤ g) (h2 : g < mo) : g < nxt mo g := by
  unfold nxt
  split <;> omega
theorem next_end {r : RD} (h : r.ok) {n l : Int} (hn : 0 ≤ n) : l + 1 ≤ (r.next n l).2 ∨ (n + 1 ≤ (r.next n l).2 ∧ ∀ s st w m, r = .each s st w m → s + (n + 1) ≤ (r.next n l).2) ∨ ∃ x y, r = .once x y := by
  cases r with
  | once x y => exact .inr (.inr ⟨x, y, rfl⟩)
  | each s st w m =>
    refine .inr (.inl ?_)
    obtain ⟨h1, h2, h3, h4, h5, h6, h7⟩ := h
    have e := Int.mul_le_mul_of_nonneg_left h3 (show 0 ≤ n + 1 by omega)
    refine ⟨?_, fun s2 st2 w2 m2 eq => ?_⟩
    · show n + 1 ≤ s + (n + 1) * st + w
      omega
    · cases eq
      show s + (n + 1) ≤ s + (n + 1) * st + w
      omega
  | behind s g w m =>
    left
    obtain ⟨h1, h2, h3, h4, h5, h6, h7⟩ := h
    show l + 1 ≤ l + g + w
    omega
  | slow s g mo w m =>
    left
    obtain ⟨h1, h2, h3, h4, h5, h6, h7, h8⟩ := h
    have e := iter_bd (mo := mo) n.toNat (g := g) h3 h4
    show l + 1 ≤ l + iter mo n.toNat g + w
    omega
/-! ### of rules that stand in the heap -/
def ResAt (H : Hp) (q : Addr) : Int × Option (Int × Int) → Prop
  | (i, none) => H q = some (.tup [.int i, .non])
  | (i, some st) => ∃ t, H q = some (.tup [.int i, .ref t]) ∧ H t = some (.tup [.int st.1, .int st.2])
def Onw (r : RD) (n l now : Int) (H : Hp) (Q : VK) : Prop := ∀ (k : Nat) (q t : Addr) (H' : Hp), Same H H' → (∀ j, j < k → r.ends (j + 1) n l ≤ now) → now < r.ends (k + 1) n l →
  H' q = some (.tup [.int (n + k + 1), .ref t]) → H' t = some (.tup [.int (r.ends (k + 1) n l - r.wide), .int (r.ends (k + 1) n l)]) → Q (.ref q) H'
def LetBy (r : RD) (n l now : Int) (H : Hp) (Q : VK) : Prop := ∀ (res : Int × Option (Int × Int)) (q : Addr) (H' : Hp), Same H H' → LB r now n l res → ResAt H' q res → Q (.ref q) H'
def inB (n l now : Int) : Prop := 0 ≤ n ∧ n < 2 ^ 200 ∧ -2 ^ 200 < l ∧ l ≤ now ∧ now < 2 ^ 200
def RuleAt (K : PySem.W.Frag) (H : Hp) (p : Addr) : RD → Prop
  | .once x y => ∃ dx, H p = some (.ins (He.ga K "Once") dx (fl_Once (.int 1) (.int x) (.int y)))
  | .each s st w m => ∃ dx, H p = some (.ins (He.ga K "Each") dx (fl_Each (vO m) (.int s) (.int st) (.int w)))
  | .behind s g w m => ∃ dx, H p = some (.ins (He.ga K "Behind") dx (fl_Behind (vO m) (.int s) (.int g) (.int w)))
  | .slow s g mo w m => ∃ dx, H p = some (.ins (He.ga K "Slowing") dx (fl_Slowing (vO m) (.int s) (.int g) (.int w) (.int mo)))
def RD.cls (K : PySem.W.Frag) : RD → Addr
  | .once _ _ => He.ga K "Once"
  | .each _ _ _ _ => He.ga K "Each"
  | .behind _ _ _ _ => He.ga K "Behind"
  | .slow _ _ _ _ _ => He.ga K "Slowing"
theorem RD.all {P : RD → Prop} (h1 : ∀ x y, P (.once x y)) (h2 : ∀ s st w m, P (.each s st w m)) (h3 : ∀ s g w m, P (.behind s g w m)) (h4 : ∀ s g mo w m, P (.slow s g mo w m)) : ∀ r, P r
  | .once x y => h1 x y
  | .each s st w m => h2 s st w m
  | .behind s g w m => h3 s g w m
  | .slow s g mo w m => h4 s g mo w m
theorem RuleAt.same {K : PySem.W.Frag} {H H' : Hp} {p : Addr} {r : RD} (s : Same H H') (h : RuleAt K H p r) : RuleAt K H' p r := by
  cases r <;> exact h.elim fun dx e => ⟨dx, s _ _ e⟩
theorem RuleAt.look {K : PySem.W.Frag} {x : Str} (l1 : ∀ {a b c : V}, (fl_Once a b c).lookup x = none) (l2 : ∀ {a b c d : V}, (fl_Each a b c d).lookup x = none) (l3 : ∀ {a b c d : V}, (fl_Behind a b c d).lookup x = none) (l4 : ∀ {a b c d e : V}, (fl_Slowing a b c d e).lookup x = none)
    {H : Hp} {p : Addr} {r : RD} (h : RuleAt K H p r) : ∃ dx fs, H p = some (.ins (RD.cls K r) dx fs) ∧ fs.lookup x = none := by
  cases r with
  | once x y => exact h.elim fun dx e => ⟨dx, _, e, l1⟩
  | each s st w m => exact h.elim fun dx e => ⟨dx, _, e, l2⟩
  | behind s g w m => exact h.elim fun dx e => ⟨dx, _, e, l3⟩
  | slow s g mo w m => exact h.elim fun dx e => ⟨dx, _, e, l4⟩
def resD : Int × Option (Int × Int) → PyData
  | (i, none) => .tuple [.int i, .none]
  | (i, some st) => .tuple [.int i, .tuple [.int st.1, .int st.2]]
theorem resD_dp {K : PySem.W.Frag} {H : Hp} {q : Addr} {r : Int × Option (Int × Int)} (h : ResAt H q r) : Dp K H (.ref q) (resD r) := by
  obtain ⟨i, o⟩ := r
  cases o with
  | none => exact .tup (SqT.of h) (.cons (.int i) (.cons .non .nil))
  | some st =>
    obtain ⟨t, h1, h2⟩ := h
    exact .tup (SqT.of h1) (.cons (.int i) (.cons (.tup (SqT.of h2) (.cons (.int st.1) (.cons (.int st.2) .nil))) .nil))
theorem resD_sh (r : Int × Option (Int × Int)) : SeqAt.shaped (resD r) = true := by
  obtain ⟨i, o⟩ := r
  cases o <;> rfl
theorem resD_eq (r : Int × Option (Int × Int)) : PyData.eqv (resD r) (resD r) = true := by
  obtain ⟨i, o⟩ := r
  cases o <;> simp [resD, PyData.eqv, PyData.eqvAll]
theorem ResAt.same {H H' : Hp} {q : Addr} {r : Int × Option (Int × Int)} (s : Same H H') (h : ResAt H q r) : ResAt H' q r := by
  obtain ⟨i, o⟩ := r
  cases o with
  | none => exact s _ _ h
  | some st => exact h.elim fun t h => ⟨t, s _ _ h.1, s _ _ h.2⟩
theorem LB.end_ {r : RD} {now n l : Int} (h : endedM r.many (n + 1) = true) : ∃ i, r.many = some i ∧ LB r now n l (i, none) := by
  obtain ⟨i, e, _⟩ := ended_some h
  exact ⟨i, e, .over e h⟩
/-- the least place of a start -/
def soon (r : RD) (now : Int) (b : Int) : Prop := ∀ s st w m, r = .each s st w m → now ≤ s + b
theorem RuleAt.many {K : PySem.W.Frag} {mg : Str → Option Value} (T : Txt K mg) {H : Hp} {p : Addr} {r : RD} (h : RuleAt K H p r) : ∃ C dx fs, H p = some (.ins C dx fs) ∧ Cls K C ∧ NoAttr K C "many" ∧ fs.lookup ("many" : Str) = some (vO r.many) := by
  cases r with
  | once x y => exact h.elim fun dx e => ⟨_, dx, _, e, T.c_Once, T.n_Once_many, lk_Once_many⟩
  | each s st w m => exact h.elim fun dx e => ⟨_, dx, _, e, T.c_Each, T.n_Each_many, lk_Each_many⟩
  | behind s g w m => exact h.elim fun dx e => ⟨_, dx, _, e, T.c_Behind, T.n_Behind_many, lk_Behind_many⟩
  | slow s g mo w m => exact h.elim fun dx e => ⟨_, dx, _, e, T.c_Slowing, T.n_Slowing_many, lk_Slowing_many⟩
theorem RuleAt.isi {K : PySem.W.Frag} {mg : Str → Option Value} (T : Txt K mg) {H : Hp} {p : Addr} {r : RD} (h : RuleAt K H p r) : ∃ C, TyX K H (.ref p) (.ref C) ∧ PySem.W.kitOne K (.ref C) (.ref (He.ga K "Rule")) = some true := by
  cases r with
  | once x y => exact h.elim fun dx e => ⟨_, T.i_Once.ty T.c_Once e, T.y_Once_Rule⟩
  | each s st w m => exact h.elim fun dx e => ⟨_, T.i_Each.ty T.c_Each e, T.y_Each_Rule⟩
  | behind s g w m => exact h.elim fun dx e => ⟨_, T.i_Behind.ty T.c_Behind e, T.y_Behind_Rule⟩
  | slow s g mo w m => exact h.elim fun dx e => ⟨_, T.i_Slowing.ty T.c_Slowing e, T.y_Slowing_Rule⟩
theorem LB.trans {r : RD} {now n l : Int} {p : Int × Option (Int × Int)} (h : LB r now n l p) : ∀ {n' : Int} {st : Int × Int}, p = (n', some st) → ∀ {to : Int}, now ≤ to → st.2 ≤ to → ∀ {q}, LB r to n' st.2 q → LB r to n l q := by
  induction h with
  | over h e => intro n' st e2; cases e2
  | hit e h =>
    intro n' st e2 to ht h2 q k
    cases e2
    exact .step e h2 k
  | step e h k ih =>
    intro n' st e2 to ht h2 q k2
    exact .step e (by omega) (ih e2 ht h2 k2)
theorem LB.stay {r : RD} {now n l : Int} {p : Int × Option (Int × Int)} (h : LB r now n l p) : ∀ {n' : Int} {st : Int × Int}, p = (n', some st) → ∀ {to : Int}, now ≤ to → to < st.2 → LB r to n l p := by
  induction h with
  | over h e => intro n' st e2; cases e2
  | hit e h =>
    intro n' st e2 to ht h2
    cases e2
    exact .hit e h2
  | step e h k ih =>
    intro n' st e2 to ht h2
    exact .step e (by omega) (ih e2 ht h2)
theorem LB.over' {r : RD} {now n l : Int} {p : Int × Option (Int × Int)} (h : LB r now n l p) : ∀ {i : Int}, p = (i, none) → ∀ {to : Int}, now ≤ to → LB r to n l p := by
  induction h with
  | over h e => intro i e2 to ht; exact .over h e
  | hit e h => intro i e2; cases e2
  | step e h k ih =>
    intro i e2 to ht
    exact .step e (by omega) (ih e2 ht)
theorem LB.bound {r : RD} (ok : r.ok) {now n l : Int} {p : Int × Option (Int × Int)} (h : LB r now n l p) : 0 ≤ n → l ≤ now → ∀ {n' : Int} {st : Int × Int}, p = (n', some st) → n' ≤ n + 1 ∨ n' ≤ now + 1 ∨ n' ≤ n + (now - l) + 1 := by
  induction h with
  | over h e => intro _ _ n' st e2; cases e2
  | hit e h =>
    intro h0 hl n' st e2
    cases e2
    left
    omega
  | @step n l q e h k ih =>
    intro h0 hl n' st e2
    have z := ih (by omega) h e2
    cases r with
    | once x y =>
      have : endedM (RD.once x y).many (n + 1) = true := decide_eq_true (by omega)
      rw [this] at e
      cases e
    | each s st w m =>
      rcases next_end ok (n := n) (l := l) h0 with h5 | ⟨h5, _⟩ | ⟨_, _, e⟩
      · have h6 := ok.1
        have h7 := ok.2.2.2.2.1
        have h8 := Int.mul_le_mul_of_nonneg_left ok.2.2.1 (show 0 ≤ n + 1 by omega)
        have h9 : (RD.next (.each s st w m) n l).2 = s + (n + 1) * st + w := rfl
        omega
      · omega
      · cases e
    | behind s g w m =>
      have h6 := ok.2.2.1
      have h7 := ok.2.2.2.2.1
      have h9 : (RD.next (.behind s g w m) n l).2 = l + g + w := rfl
      omega
    | slow s g mo w m =>
      have h6 := iter_bd (mo := mo) n.toNat (g := g) ok.2.2.1 ok.2.2.2.1
      have h7 := ok.2.2.2.2.2.1
      have h5 := ok.2.2.1
      have h9 : (RD.next (.slow s g mo w m) n l).2 = l + iter mo n.toNat g + w := rfl
      omega
theorem RD.wide0 {r : RD} (h : r.ok) : 0 ≤ r.wide := by
  cases r with
  | once x y => have := h.2.1; show 0 ≤ y - x; omega
  | each s st w m => exact h.2.2.2.2.1
  | behind s g w m => exact h.2.2.2.2.1
  | slow s g mo w m => exact h.2.2.2.2.2.1
/-- a number of the laws: 0 to 6, to 999, below 10 ** 39 -/
def lnum (c : Int) : Int := if c % 3 = 0 then c / 3 % 7 else if c % 3 = 1 then c / 3 % 1000 else c / 3 % 10 ^ 39
theorem lnum_0 (c : Int) : 0 ≤ lnum c := by
  unfold lnum
  split
  · exact Int.emod_nonneg _ (by decide)
  · split
    · exact Int.emod_nonneg _ (by decide)
    · exact Int.emod_nonneg _ (by decide)
theorem lnum_lt (c : Int) : lnum c < 10 ^ 39 := by
  unfold lnum
  split
  · have := Int.emod_lt_of_pos (c / 3) (b := 7) (by decide)
    omega
  · split
    · have := Int.emod_lt_of_pos (c / 3) (b := 1000) (by decide)
      omega
    · exact Int.emod_lt_of_pos _ (by decide)
def behindOk (a b c d : V) : Prop := goodN a 0 ∧ goodM d ∧ goodN b 1 ∧ goodN c 0
def onceOk (a b : V) : Prop := goodN a 0 ∧ (b = .non ∨ ∃ i j, a = .int i ∧ b = .int j ∧ i ≤ j)
def eachOk (a b c d : V) : Prop := goodN a 0 ∧ goodM d ∧ ∃ st w, b = .int st ∧ c = .int w ∧ 1 ≤ st ∧ 0 ≤ w ∧ w < st
def slowOk (a b e c d : V) : Prop := behindOk a b c d ∧ ∃ g i, b = .int g ∧ e = .int i ∧ g ≤ i
theorem goodM_v {m : Option Int} (h : ∀ i, m = some i → 1 ≤ i) : goodM (vO m) := by
  cases m with
  | none => exact .inl rfl
  | some i => exact .inr ⟨i, rfl, h i rfl⟩
theorem onceOk_ii {x y : Int} (h0 : 0 ≤ x) (h : x ≤ y) : onceOk (.int x) (.int y) := ⟨⟨_, rfl, h0⟩, .inr ⟨_, _, rfl, rfl, h⟩⟩
theorem eachOk_ii {s st w : Int} {m : Option Int} (h0 : 0 ≤ s) (h1 : 1 ≤ st) (h2 : 0 ≤ w) (h3 : w < st) (h : ∀ i, m = some i → 1 ≤ i) : eachOk (.int s) (.int st) (.int w) (vO m) := ⟨⟨_, rfl, h0⟩, goodM_v h, st, w, rfl, rfl, h1, h2, h3⟩
theorem behindOk_ii {s g w : Int} {m : Option Int} (h0 : 0 ≤ s) (h1 : 1 ≤ g) (h2 : 0 ≤ w) (h : ∀ i, m = some i → 1 ≤ i) : behindOk (.int s) (.int g) (.int w) (vO m) := ⟨⟨_, rfl, h0⟩, goodM_v h, ⟨_, rfl, h1⟩, ⟨_, rfl, h2⟩⟩
theorem slowOk_ii {s g mo w : Int} {m : Option Int} (h0 : 0 ≤ s) (h1 : 1 ≤ g) (h4 : g ≤ mo) (h2 : 0 ≤ w) (h : ∀ i, m = some i → 1 ≤ i) : slowOk (.int s) (.int g) (.int mo) (.int w) (vO m) := ⟨behindOk_ii h0 h1 h2 h, _, _, rfl, rfl, h4⟩
def cellAt (ns : List Int) (i : Int) : Int := ns.getD i.toNat 0
theorem cellAt_at {ns : List Int} {i : Int} (h0 : 0 ≤ i) (h : i < ((ns.map V.int).length : Int)) : atI (ns.map V.int) i = some (.int (cellAt ns i)) := by
  have e : i = ((i.toNat : Nat) : Int) := (Int.toNat_of_nonneg h0).symm
  rw [List.length_map] at h
  have hl : i.toNat < ns.length := by omega
  rw [e]
  refine atI_nat ?_
  rw [List.getElem?_map, List.getElem?_eq_getElem hl]
  unfold cellAt
  rw [← e, List.getD_eq_getElem?_getD, List.getElem?_eq_getElem hl] <;> rfl
theorem cellAt_out {ns : List Int} {i : Int} (h0 : 0 ≤ i) (h : ¬ i < ((ns.map V.int).length : Int)) : cellAt ns i = 0 := by
  rw [List.length_map] at h
  unfold cellAt
  rw [List.getD_eq_getElem?_getD, List.getElem?_eq_none (by omega)] <;> rfl
def tI (t : String) : Bool := t == "int" || t == "bool"
theorem kit_int {K : PySem.W.Frag} {t : String} (h : t ∈ bTys) : PySem.W.kitOne K (.type t) (.type "int") = some (tI t) := by
  simp only [bTys, List.mem_cons, List.not_mem_nil, or_false] at h
  rcases h with rfl | rfl | rfl | rfl | rfl | rfl | rfl <;> exact kit_ty (by decide +kernel)
theorem kit_bool {K : PySem.W.Frag} {t : String} (h : t ∈ bTys) : PySem.W.kitOne K (.type t) (.type "bool") = some (t == "bool") := by
  simp only [bTys, List.mem_cons, List.not_mem_nil, or_false] at h
  rcases h with rfl | rfl | rfl | rfl | rfl | rfl | rfl <;> exact kit_ty (by decide +kernel)
theorem kit_or {t : String} (h : t ∈ bTys) : tI t = tI t := rfl
theorem kit_nb {t : String} (h : t ∈ bTys) (e : tI t = true) : (t == "int") = !(t == "bool") := by
  simp only [bTys, List.mem_cons, List.not_mem_nil, or_false] at h
  rcases h with rfl | rfl | rfl | rfl | rfl | rfl | rfl <;> revert e <;> decide +kernel
theorem kit_ni {t : String} (h : t ∈ bTys) (e : tI t = false) : (t == "int") = false := by
  simp only [bTys, List.mem_cons, List.not_mem_nil, or_false] at h
  rcases h with rfl | rfl | rfl | rfl | rfl | rfl | rfl <;> revert e <;> decide +kernel
theorem bigM {i j : Int} (ha : i.natAbs < 2 ^ 250) (hb : j.natAbs < 2 ^ 250) : CMulW i j := wide_mul ha hb (by decide) (by decide) (by decide)
theorem bigD {i j : Int} (h : 0 < j) (hb : j.natAbs < 2 ^ 250) : CDivW i j := wide_div h hb (by decide) (by decide)

section
variable {P : Program} {w : World} {K : PySem.W.Frag} {mg : Str → Option Value} {base : Heap}
theorem sc_cell_at : FnScope ["_law_script", "_law_k"] ["_law_script", "_law_k"] (defScope s_cell_at) := ⟨rfl, rfl, rfl, by decide +kernel, rfl, by decide +kernel, by decide +kernel⟩
structure sp_cell_at (K : PySem.W.Frag) (vs : List V) (H : Hp) (Q : VK) (E : XK) : Prop where
  tt : Go
  ex : ∃ (a : Addr) (ns : List Int) (i : Int), vs = [.ref a, .int i] ∧ SqL K H a (ns.map V.int) ∧ 0 ≤ i ∧ Q (.int (cellAt ns i)) H
set_option maxHeartbeats 4000000 in
theorem ok_cell_at (T : Txt K mg) : FnOk P w K mg base CX0 1 (He.fAd K ("_law_cell_at", none)) (fdOf K ("_law_cell_at", none)) ["_law_script", "_law_k"] (sp_cell_at K) := by
  refine T.d_cell_at.ok sc_cell_at (fun vs H Q E h => ?_) (fun cdv A outer s H vs Q E hr h => ?_)
  · obtain ⟨a, ns, i, rfl, _⟩ := h.ex
    rfl
  · obtain ⟨a, ns, i, rfl, hS, h0, k⟩ := h.ex
    refine ⟨_, (PSs.nox (pss_cons (ps_if (pt_cmpR op_lt (pv 1) (pe_callB call_len_seq (by rfl) T.z_len (by decide +kernel) (pa_cons (pv 0) pa_nil)) (nomark _)) (pss_one (ps_ret (pe_ix ix_list (pv 0) (pv 1) (fun _ _ => rfl)))) pss_nil)
      (pss_one (ps_ret pe_int)))), ?_⟩
    refine ⟨_, rfl, _, rfl, _, _, rfl, .inl hS, _, _, rfl, rfl, _, rfl, ?_⟩
    refine iteD (fun h => ?_) (fun h => ?_)
    · exact ⟨_, rfl, _, rfl, a, _, i, _, rfl, rfl, hS, cellAt_at h0 h, k⟩
    · rw [cellAt_out h0 h] at k
      exact k
local macro_rules | `(tactic| walk_at "rd1") => `(tactic| refine sp_cell_at.mk .go ⟨_, _, _, rfl, (by assumption), (by first | decide | omega), ?_⟩)
theorem b_cell_at (T : Txt K mg) : Binds K (fdOf K ("_law_cell_at", none)) ["_law_script", "_law_k"] [] := T.d_cell_at.bindsN fun _ _ _ _ _ _ us hl => match us, hl with | [_, _], _ => rfl
theorem sc_number : FnScope ["_law_cell"] ["_law_cell"] (defScope s_number) := ⟨rfl, rfl, rfl, by decide +kernel, rfl, by decide +kernel, by decide +kernel⟩
structure sp_number (K : PySem.W.Frag) (vs : List V) (H : Hp) (Q : VK) (E : XK) : Prop where
  tt : Go
  ex : ∃ (c : Int), vs = [.int c] ∧ Q (.int (lnum c)) H
set_option maxHeartbeats 4000000 in
theorem ok_number (T : Txt K mg) : FnOk P w K mg base CX0 1 (He.fAd K ("_law_number", none)) (fdOf K ("_law_number", none)) ["_law_cell"] (sp_number K) := by
  refine T.d_number.ok sc_number (fun vs H Q E h => ?_) (fun cdv A outer s H vs Q E hr h => ?_)
  · obtain ⟨c, rfl, _⟩ := h.ex
    rfl
  · obtain ⟨c, rfl, k⟩ := h.ex
    refine ⟨_, (PSs.nox (pss_cons (ps_if (pt_cmpR op_eq (pe_op op_mod (pv 0) pe_int) pe_int (nomark _)) (pss_one (ps_ret (pe_op op_mod (pe_op op_fdiv (pv 0) pe_int) pe_int))) pss_nil)
      (pss_cons (ps_if (pt_cmpR op_eq (pe_op op_mod (pv 0) pe_int) pe_int (nomark _)) (pss_one (ps_ret (pe_op op_mod (pe_op op_fdiv (pv 0) pe_int) pe_int))) pss_nil)
      (pss_one (ps_ret (pe_op op_mod (pe_op op_fdiv (pv 0) pe_int) (pe_powC 39))))))), ?_⟩
    walk_at "rd"
    refine iteD (fun e => ?_) (fun e => ?_)
    · have e1 : lnum c = c / 3 % 7 := if_pos (V.int_inj.mp e)
      rw [e1] at k
      walk_at "rd"
      exact k
    · walk_at "rd"
      refine iteD (fun e2 => ?_) (fun e2 => ?_)
      · have e1 : lnum c = c / 3 % 1000 := (if_neg (fun z => e (V.int_inj.mpr z))).trans (if_pos (V.int_inj.mp e2))
        rw [e1] at k
        walk_at "rd"
        exact k
      · have e1 : lnum c = c / 3 % 10 ^ 39 := (if_neg (fun z => e (V.int_inj.mpr z))).trans (if_neg (fun z => e2 (V.int_inj.mpr z)))
        rw [e1] at k
        walk_at "rd"
        exact k
local macro_rules | `(tactic| walk_at "rd1") => `(tactic| refine sp_number.mk .go ⟨_, rfl, ?_⟩)
theorem b_number (T : Txt K mg) : Binds K (fdOf K ("_law_number", none)) ["_law_cell"] [] := T.d_number.bindsN fun _ _ _ _ _ _ us hl => match us, hl with | [_], _ => rfl
theorem sc_is_whole : FnScope ["thing"] ["thing"] (defScope s_is_whole) := ⟨rfl, rfl, rfl, by decide +kernel, rfl, by decide +kernel, by decide +kernel⟩
structure sp_is_whole (K : PySem.W.Frag) (vs : List V) (H : Hp) (Q : VK) (E : XK) : Prop where
  tt : Go
  ex : ∃ (x : V), vs = [x] ∧ Base K H x ∧ Q (.bl (isI x)) H
set_option maxHeartbeats 4000000 in
theorem ok_is_whole (T : Txt K mg) : FnOk P w K mg base CX0 1 (He.fAd K ("is_whole", none)) (fdOf K ("is_whole", none)) ["thing"] (sp_is_whole K) := by
  refine T.d_is_whole.ok sc_is_whole (fun vs H Q E h => ?_) (fun cdv A outer s H vs Q E hr h => ?_)
  · obtain ⟨x, rfl, _⟩ := h.ex
    rfl
  · obtain ⟨x, rfl, hb, k⟩ := h.ex
    refine ⟨_, (PSs.nox (pss_one (ps_ret (pe_and (pe_callB call_isi (by rfl) T.z_isinstance (by decide +kernel) (pa_cons (pv 0) (pa_cons (pe_bltn (v := .ty "int") (by rfl) T.z_int (by decide +kernel) rfl) pa_nil))) (pe_one (pe_not (pe_callB call_isi (by rfl) T.z_isinstance (by decide +kernel) (pa_cons (pv 0) (pa_cons (pe_bltn (v := .ty "bool") (by rfl) T.z_bool (by decide +kernel) rfl) pa_nil))))))))), ?_⟩
    obtain ⟨t, hty, ht⟩ := hb
    rw [← tyx_isI hty] at k
    refine ⟨_, rfl, _, _, _, _, _, rfl, .ty _, hty, kit_int ht, _, rfl, ?_⟩
    refine iteE (kit_or ht) ?_
    refine iteB (fun e => ?_) (fun e => ?_)
    · refine ⟨_, rfl, _, _, _, _, _, rfl, .ty _, hty, kit_bool ht, _, rfl, ?_⟩
      rw [kit_nb ht e] at k
      exact k
    · rw [kit_ni ht e] at k
      exact k
theorem b_is_whole (T : Txt K mg) : Binds K (fdOf K ("is_whole", none)) ["thing"] [] := T.d_is_whole.bindsN fun _ _ _ _ _ _ us hl => match us, hl with | [_], _ => rfl
theorem sc_checked : FnScope ["number", "least"] ["number", "least"] (defScope s_checked) := ⟨rfl, rfl, rfl, by decide +kernel, rfl, by decide +kernel, by decide +kernel⟩
structure sp_checked (K : PySem.W.Frag) (vs : List V) (H : Hp) (Q : VK) (E : XK) : Prop where
  tt : Go
  ex : ∃ (v : V) (least : Int), vs = [v, .int least] ∧ Base K H v ∧ (goodN v least → Q v H) ∧ (¬ goodN v least → E (.ref (He.ga K "NoRule")) none H)
set_option maxHeartbeats 4000000 in
theorem ok_checked (T : Txt K mg) : FnOk P w K mg base (L2.CX P w) 2 (He.fAd K ("checked", none)) (fdOf K ("checked", none)) ["number", "least"] (sp_checked K) := by
  refine T.d_checked.ok sc_checked (fun vs H Q E h => ?_) (fun cdv A outer s H vs Q E hr h => ?_)
  · obtain ⟨v, least, rfl, _⟩ := h.ex
    rfl
  · obtain ⟨v, least, rfl, hb, k, kE⟩ := h.ex
    refine ⟨_, (pss_cons (ps_if (PW.pt (pw_or (pt_not (pt_val (pe_call (ok_is_whole T) (hr.mono (by decide)) rfl T.g_is_whole T.d_is_whole.kp (b_is_whole T) .nil pass0 (pa_cons (pv 0) pa_nil)))) (pw_or1 (pt_cmpR op_lt (pv 0) (pv 1) (nomark _))))) (pss_one (ps_raise rfl (takes_of rfl rfl rfl rfl) (pmk_own PySem.F.excBase_ValueError T.x_NoRule.1 T.g_NoRule T.x_NoRule.2.1 (raises_own T.x_NoRule.2.2.1 T.x_NoRule.2.2.2) rfl))) pss_nil)
      (pss_one (ps_ret (pv 0)))), ?_⟩
    walk_at "rd"
    refine ⟨.go, v, rfl, hb, ?_⟩
    walk_at "rd"
    cases hi : isI v with
    | false =>
      walk_at "rd"
      refine kE fun ⟨i, e, _⟩ => ?_
      rw [e] at hi
      cases hi
    | true =>
      obtain ⟨i, rfl⟩ := isI_iff hi
      walk_at "rd"
      refine iteD (fun c => ?_) (fun c => ?_)
      · exact kE fun ⟨j, e, l⟩ => by
          have e2 : i = j := V.int_inj.mp e
          omega
      · walk_at "rd"
        exact k ⟨i, rfl, by omega⟩
theorem b_checked (T : Txt K mg) : Binds K (fdOf K ("checked", none)) ["number", "least"] [] := T.d_checked.bindsN fun _ _ _ _ _ _ us hl => match us, hl with | [_, _], _ => rfl
theorem sc_Once_Rule_init : FnScope ["self", "many"] ["self", "many"] (defScope s_Once_Rule_init) := ⟨rfl, rfl, rfl, by decide +kernel, rfl, by decide +kernel, by decide +kernel⟩
structure sp_Once_Rule_init (K : PySem.W.Frag) (vs : List V) (H : Hp) (Q : VK) (E : XK) : Prop where
  tt : Go
  ex : ∃ (p dx : Addr) (m : V), vs = [.ref p, m] ∧ H p = some (.ins (He.ga K "Once") dx []) ∧ Base K H m ∧ (goodM m → ∀ H', Keep p H H' → H' p = some (.ins (He.ga K "Once") dx [("many", m)]) → Q .non H') ∧
    (¬ goodM m → ∀ H', Keep p H H' → E (.ref (He.ga K "NoRule")) none H')
set_option maxHeartbeats 4000000 in
theorem ok_Once_Rule_init (T : Txt K mg) : FnOk P w K mg base (L2.CX P w) 3 (He.fAd K ("Rule", some "__init__")) (fdOf K ("Rule", some "__init__")) ["self", "many"] (sp_Once_Rule_init K) := by
  refine T.d_Once_Rule_init.ok sc_Once_Rule_init (fun vs H Q E h => ?_) (fun cdv A outer s H vs Q E hr h => ?_)
  · obtain ⟨p, dx, m, rfl, _⟩ := h.ex
    rfl
  · obtain ⟨p, dx, m, rfl, hp, hb, k, kE⟩ := h.ex
    refine ⟨_, (pss_cons (ps_fldN (pv 0) (pv 1) rfl)
      (pss_one (ps_if (pt_cmpR op_notN (pv 1) pe_non (nomark _)) (pss_one (ps_expr (pe_call (ok_checked T) (hr.mono (by decide)) rfl T.g_checked T.d_checked.kp (b_checked T) .nil (passes_call (takes_of rfl rfl rfl rfl) (fun _ _ _ _ z => z)) (pa_cons (pv 1) (pa_cons pe_int pa_nil))))) pss_nil))), ?_⟩
    refine ⟨_, rfl, _, rfl, p, _, dx, _, rfl, hp, T.c_Once, T.n_Once_many, by decide, fun H1 k1 e1 => ?_⟩
    walk_at "rd"
    by_cases hm : m = .non
    · subst hm
      walk_at "rd"
      exact k (.inl rfl) H1 k1 e1
    · refine iteE (c := true) (by simp [hm]) ?_
      walk_at "rd"
      refine ⟨.go, m, 1, rfl, hb.keep k1 hp, fun g => ?_, fun g => ?_⟩
      · exact k (.inr g) H1 k1 e1
      · exact kE (fun z => z.elim hm g) H1 k1
theorem b_Once_Rule_init (T : Txt K mg) : Binds K (fdOf K ("Rule", some "__init__")) ["self", "many"] [] := T.d_Once_Rule_init.bindsN fun _ _ _ _ _ _ us hl => match us, hl with | [_, _], _ => rfl
theorem sc_Once_init : FnScope ["self", "first", "last"] ["self", "first", "last"] (defScope s_Once_init) := ⟨rfl, rfl, rfl, by decide +kernel, rfl, by decide +kernel, by decide +kernel⟩
structure sp_Once_init (K : PySem.W.Frag) (vs : List V) (H : Hp) (Q : VK) (E : XK) : Prop where
  tt : Go
  ex : ∃ (p dx : Addr) (a b : V), vs = [.ref p, a, b] ∧ H p = some (.ins (He.ga K "Once") dx []) ∧ Base K H a ∧ Base K H b ∧
    (onceOk a b → ∀ H', Keep p H H' → H' p = some (.ins (He.ga K "Once") dx (fl_Once (.int 1) a (if b = .non then a else b))) → Q .non H') ∧
    (¬ onceOk a b → ∀ H', Keep p H H' → E (.ref (He.ga K "NoRule")) none H')
set_option maxHeartbeats 4000000 in
theorem ok_Once_init (T : Txt K mg) : FnOk P w K mg base (L2.CX P w) 4 (He.fAd K ("Once", some "__init__")) (fdOf K ("Once", some "__init__")) ["self", "first", "last"] (sp_Once_init K) := by
  refine T.d_Once_init.ok sc_Once_init (fun vs H Q E h => ?_) (fun cdv A outer s H vs Q E hr h => ?_)
  · obtain ⟨p, dx, a, b, rfl, _⟩ := h.ex
    rfl
  · obtain ⟨p, dx, a, b, rfl, hp, ha, hb, k, kE⟩ := h.ex
    refine ⟨_, (pss_cons (ps_expr (pe_clsfn T.q_Rule___init__ (ok_Once_Rule_init T) (hr.mono (by decide)) rfl T.g_Rule (b_Once_Rule_init T) .nil (passes_call (takes_of rfl rfl rfl rfl) (fun _ _ _ _ z => z)) (pa_cons (pv 0) (pa_cons pe_int pa_nil))))
      (pss_cons (ps_fldN (pv 0) (pe_call (ok_checked T) (hr.mono (by decide)) rfl T.g_checked T.d_checked.kp (b_checked T) .nil (passes_call (takes_of rfl rfl rfl rfl) (fun _ _ _ _ z => z)) (pa_cons (pv 1) (pa_cons pe_int pa_nil))) rfl)
      (pss_cons (ps_fldN (pv 0) (pv 1) rfl)
      (pss_one (ps_if (pt_cmpR op_notN (pv 2) pe_non (nomark _)) (pss_one (ps_fldN (pv 0) (pe_call (ok_checked T) (hr.mono (by decide)) rfl T.g_checked T.d_checked.kp (b_checked T) .nil (passes_call (takes_of rfl rfl rfl rfl) (fun _ _ _ _ z => z)) (pa_cons (pv 2) (pa_cons (pv 1) pa_nil))) rfl)) pss_nil))))), ?_⟩
    walk_at "rd"
    refine ⟨.go, p, dx, .int 1, rfl, hp, base_int, fun _ H1 k1 e1 => ?_, fun g => absurd (Or.inr ⟨1, rfl, Int.le_refl 1⟩) g⟩
    walk_at "rd"
    refine ⟨.go, a, 0, rfl, ha.keep k1 hp, fun ga => ?_, fun ga => kE (fun z => ga z.1) H1 k1⟩
    refine ⟨_, rfl, p, _, dx, _, rfl, e1, T.c_Once, T.n_Once_first, few (by kernel_rfl), fun H2 k2 e2 => ?_⟩
    walk_at "rd"
    refine ⟨p, _, dx, _, rfl, e2, T.c_Once, T.n_Once_last, few (by kernel_rfl), fun H3 k3 e3 => ?_⟩
    have k13 := k1.trans (k2.trans k3)
    walk_at "rd"
    by_cases hn : b = .non
    · subst hn
      walk_at "rd"
      refine k ⟨ga, .inl rfl⟩ H3 k13 ?_
      rw [e3, if_pos rfl]
      exact congrArg (fun l => some (HO.ins (He.ga K "Once") dx l)) (by kernel_rfl)
    · refine iteE (c := true) (by simp [hn]) ?_
      obtain ⟨i, rfl, hi⟩ := ga
      walk_at "rd"
      refine ⟨.go, b, i, rfl, hb.keep k13 hp, fun gb => ?_, fun gb => kE (fun z => ?_) H3 k13⟩
      · refine ⟨_, rfl, p, _, dx, _, rfl, e3, T.c_Once, T.n_Once_last, few (by kernel_rfl), fun H4 k4 e4 => ?_⟩
        obtain ⟨j, rfl, hj⟩ := gb
        refine k ⟨⟨i, rfl, hi⟩, .inr ⟨i, j, rfl, rfl, hj⟩⟩ H4 (k13.trans k4) ?_
        rw [e4, if_neg hn]
        exact congrArg (fun l => some (HO.ins (He.ga K "Once") dx l)) (by kernel_rfl)
      · rcases z.2 with z | ⟨i2, j, e1, e2, h⟩
        · exact hn z
        · have e3 : i = i2 := V.int_inj.mp e1
          exact gb ⟨j, e2, by omega⟩
theorem bn_Once_init_3 (T : Txt K mg) : ∃ ds, Vals (([.non] : List V).drop 1) ds ∧ Binds K (fdOf K ("Once", some "__init__")) ["self", "first", "last"] ds := T.d_Once_init.binds1 3 1 (by simp) rfl fun _ _ _ _ _ _ _ us its h1 h2 => match us, its, h1, h2 with | [_, _, _], [_], _, _ => ⟨_, rfl, rfl⟩
theorem sc_Each_Rule_init : FnScope ["self", "many"] ["self", "many"] (defScope s_Each_Rule_init) := ⟨rfl, rfl, rfl, by decide +kernel, rfl, by decide +kernel, by decide +kernel⟩
structure sp_Each_Rule_init (K : PySem.W.Frag) (vs : List V) (H : Hp) (Q : VK) (E : XK) : Prop where
  tt : Go
  ex : ∃ (p dx : Addr) (m : V), vs = [.ref p, m] ∧ H p = some (.ins (He.ga K "Each") dx []) ∧ Base K H m ∧ (goodM m → ∀ H', Keep p H H' → H' p = some (.ins (He.ga K "Each") dx [("many", m)]) → Q .non H') ∧
    (¬ goodM m → ∀ H', Keep p H H' → E (.ref (He.ga K "NoRule")) none H')
set_option maxHeartbeats 4000000 in
theorem ok_Each_Rule_init (T : Txt K mg) : FnOk P w K mg base (L2.CX P w) 3 (He.fAd K ("Rule", some "__init__")) (fdOf K ("Rule", some "__init__")) ["self", "many"] (sp_Each_Rule_init K) := by
  refine T.d_Each_Rule_init.ok sc_Each_Rule_init (fun vs H Q E h => ?_) (fun cdv A outer s H vs Q E hr h => ?_)
  · obtain ⟨p, dx, m, rfl, _⟩ := h.ex
    rfl
  · obtain ⟨p, dx, m, rfl, hp, hb, k, kE⟩ := h.ex
    refine ⟨_, (pss_cons (ps_fldN (pv 0) (pv 1) rfl)
      (pss_one (ps_if (pt_cmpR op_notN (pv 1) pe_non (nomark _)) (pss_one (ps_expr (pe_call (ok_checked T) (hr.mono (by decide)) rfl T.g_checked T.d_checked.kp (b_checked T) .nil (passes_call (takes_of rfl rfl rfl rfl) (fun _ _ _ _ z => z)) (pa_cons (pv 1) (pa_cons pe_int pa_nil))))) pss_nil))), ?_⟩
    refine ⟨_, rfl, _, rfl, p, _, dx, _, rfl, hp, T.c_Each, T.n_Each_many, by decide, fun H1 k1 e1 => ?_⟩
    walk_at "rd"
    by_cases hm : m = .non
    · subst hm
      walk_at "rd"
      exact k (.inl rfl) H1 k1 e1
    · refine iteE (c := true) (by simp [hm]) ?_
      walk_at "rd"
      refine ⟨.go, m, 1, rfl, hb.keep k1 hp, fun g => ?_, fun g => ?_⟩
      · exact k (.inr g) H1 k1 e1
      · exact kE (fun z => z.elim hm g) H1 k1
theorem b_Each_Rule_init (T : Txt K mg) : Binds K (fdOf K ("Rule", some "__init__")) ["self", "many"] [] := T.d_Each_Rule_init.bindsN fun _ _ _ _ _ _ us hl => match us, hl with | [_, _], _ => rfl
theorem sc_Each_init : FnScope ["self", "start", "step", "wide", "many"] ["self", "start", "step", "wide", "many"] (defScope s_Each_init) := ⟨rfl, rfl, rfl, by decide +kernel, rfl, by decide +kernel, by decide +kernel⟩
structure sp_Each_init (K : PySem.W.Frag) (vs : List V) (H : Hp) (Q : VK) (E : XK) : Prop where
  tt : Go
  ex : ∃ (p dx : Addr) (a b c d : V), vs = [.ref p, a, b, c, d] ∧ H p = some (.ins (He.ga K "Each") dx []) ∧ Base K H a ∧ Base K H b ∧ Base K H c ∧ Base K H d ∧
    (eachOk a b c d → ∀ H', Keep p H H' → H' p = some (.ins (He.ga K "Each") dx (fl_Each d a b c)) → Q .non H') ∧
    (¬ eachOk a b c d → ∀ H', Keep p H H' → E (.ref (He.ga K "NoRule")) none H')
set_option maxHeartbeats 4000000 in
theorem ok_Each_init (T : Txt K mg) : FnOk P w K mg base (L2.CX P w) 4 (He.fAd K ("Each", some "__init__")) (fdOf K ("Each", some "__init__")) ["self", "start", "step", "wide", "many"] (sp_Each_init K) := by
  refine T.d_Each_init.ok sc_Each_init (fun vs H Q E h => ?_) (fun cdv A outer s H vs Q E hr h => ?_)
  · obtain ⟨p, dx, a, b, c, d, rfl, _⟩ := h.ex
    rfl
  · obtain ⟨p, dx, a, b, c, d, rfl, hp, ha, hb, hc, hd, k, kE⟩ := h.ex
    refine ⟨_, (pss_cons (ps_expr (pe_clsfn T.q_Rule___init__ (ok_Each_Rule_init T) (hr.mono (by decide)) rfl T.g_Rule (b_Each_Rule_init T) .nil (passes_call (takes_of rfl rfl rfl rfl) (fun _ _ _ _ z => z)) (pa_cons (pv 0) (pa_cons (pv 4) pa_nil))))
      (pss_cons (ps_fldN (pv 0) (pe_call (ok_checked T) (hr.mono (by decide)) rfl T.g_checked T.d_checked.kp (b_checked T) .nil (passes_call (takes_of rfl rfl rfl rfl) (fun _ _ _ _ z => z)) (pa_cons (pv 1) (pa_cons pe_int pa_nil))) rfl)
      (pss_cons (ps_fldN (pv 0) (pe_call (ok_checked T) (hr.mono (by decide)) rfl T.g_checked T.d_checked.kp (b_checked T) .nil (passes_call (takes_of rfl rfl rfl rfl) (fun _ _ _ _ z => z)) (pa_cons (pv 2) (pa_cons pe_int pa_nil))) rfl)
      (pss_cons (ps_fldN (pv 0) (pe_call (ok_checked T) (hr.mono (by decide)) rfl T.g_checked T.d_checked.kp (b_checked T) .nil (passes_call (takes_of rfl rfl rfl rfl) (fun _ _ _ _ z => z)) (pa_cons (pv 3) (pa_cons pe_int pa_nil))) rfl)
      (pss_one (ps_if (pt_cmpR op_ge (pv 3) (pv 2) (nomark _)) (pss_one (ps_raise rfl (takes_of rfl rfl rfl rfl) (pmk_own PySem.F.excBase_ValueError T.x_NoRule.1 T.g_NoRule T.x_NoRule.2.1 (raises_own T.x_NoRule.2.2.1 T.x_NoRule.2.2.2) rfl))) pss_nil)))))), ?_⟩
    walk_at "rd"
    refine ⟨.go, p, dx, d, rfl, hp, hd, fun gd H1 k1 e1 => ?_, fun g H1 k1 => kE (fun z => g z.2.1) H1 k1⟩
    walk_at "rd"
    refine ⟨.go, a, 0, rfl, ha.keep k1 hp, fun ga => ?_, fun g => kE (fun z => g z.1) H1 k1⟩
    refine ⟨_, rfl, p, _, dx, _, rfl, e1, T.c_Each, T.n_Each_start, few (by kernel_rfl), fun H2 k2 e2 => ?_⟩
    have k12 := k1.trans k2
    walk_at "rd"
    refine ⟨.go, b, 1, rfl, hb.keep k12 hp, fun gb => ?_, fun g => kE (fun ⟨_, _, st, w, e, _, h, _⟩ => g ⟨st, e, h⟩) H2 k12⟩
    refine ⟨_, rfl, p, _, dx, _, rfl, e2, T.c_Each, T.n_Each_step, few (by kernel_rfl), fun H3 k3 e3 => ?_⟩
    have k13 := k12.trans k3
    walk_at "rd"
    refine ⟨.go, c, 0, rfl, hc.keep k13 hp, fun gc => ?_, fun g => kE (fun ⟨_, _, st, w, _, e, _, h, _⟩ => g ⟨w, e, h⟩) H3 k13⟩
    refine ⟨_, rfl, p, _, dx, _, rfl, e3, T.c_Each, T.n_Each_wide, few (by kernel_rfl), fun H4 k4 e4 => ?_⟩
    have k14 := k13.trans k4
    obtain ⟨st, rfl, hst⟩ := gb
    obtain ⟨w, rfl, hw⟩ := gc
    walk_at "rd"
    refine iteD (fun h => ?_) (fun h => ?_)
    · exact kE (fun ⟨_, _, st2, w2, e, e2, _, _, h2⟩ => by
        have e3 := V.int_inj.mp e
        have e4 := V.int_inj.mp e2
        omega) H4 k14
    · refine k ⟨ga, gd, st, w, rfl, rfl, hst, hw, by omega⟩ H4 k14 ?_
      rw [e4]
      exact congrArg (fun l => some (HO.ins (He.ga K "Each") dx l)) (by kernel_rfl)
theorem bn_Each_init_5 (T : Txt K mg) : ∃ ds, Vals (([.int 0, .non] : List V).drop 2) ds ∧ Binds K (fdOf K ("Each", some "__init__")) ["self", "start", "step", "wide", "many"] ds := T.d_Each_init.binds1 5 2 (by simp) rfl fun _ _ _ _ _ _ _ us its h1 h2 => match us, its, h1, h2 with | [_, _, _, _, _], [_, _], _, _ => ⟨_, rfl, rfl⟩
theorem sc_Behind_Rule_init : FnScope ["self", "many"] ["self", "many"] (defScope s_Behind_Rule_init) := ⟨rfl, rfl, rfl, by decide +kernel, rfl, by decide +kernel, by decide +kernel⟩
structure sp_Behind_Rule_init (K : PySem.W.Frag) (vs : List V) (H : Hp) (Q : VK) (E : XK) : Prop where
  tt : Go
  ex : ∃ (p dx : Addr) (m : V), vs = [.ref p, m] ∧ H p = some (.ins (He.ga K "Behind") dx []) ∧ Base K H m ∧ (goodM m → ∀ H', Keep p H H' → H' p = some (.ins (He.ga K "Behind") dx [("many", m)]) → Q .non H') ∧
    (¬ goodM m → ∀ H', Keep p H H' → E (.ref (He.ga K "NoRule")) none H')
set_option maxHeartbeats 4000000 in
theorem ok_Behind_Rule_init (T : Txt K mg) : FnOk P w K mg base (L2.CX P w) 3 (He.fAd K ("Rule", some "__init__")) (fdOf K ("Rule", some "__init__")) ["self", "many"] (sp_Behind_Rule_init K) := by
  refine T.d_Behind_Rule_init.ok sc_Behind_Rule_init (fun vs H Q E h => ?_) (fun cdv A outer s H vs Q E hr h => ?_)
  · obtain ⟨p, dx, m, rfl, _⟩ := h.ex
    rfl
  · obtain ⟨p, dx, m, rfl, hp, hb, k, kE⟩ := h.ex
    refine ⟨_, (pss_cons (ps_fldN (pv 0) (pv 1) rfl)
      (pss_one (ps_if (pt_cmpR op_notN (pv 1) pe_non (nomark _)) (pss_one (ps_expr (pe_call (ok_checked T) (hr.mono (by decide)) rfl T.g_checked T.d_checked.kp (b_checked T) .nil (passes_call (takes_of rfl rfl rfl rfl) (fun _ _ _ _ z => z)) (pa_cons (pv 1) (pa_cons pe_int pa_nil))))) pss_nil))), ?_⟩
    refine ⟨_, rfl, _, rfl, p, _, dx, _, rfl, hp, T.c_Behind, T.n_Behind_many, by decide, fun H1 k1 e1 => ?_⟩
    walk_at "rd"
    by_cases hm : m = .non
    · subst hm
      walk_at "rd"
      exact k (.inl rfl) H1 k1 e1
    · refine iteE (c := true) (by simp [hm]) ?_
      walk_at "rd"
      refine ⟨.go, m, 1, rfl, hb.keep k1 hp, fun g => ?_, fun g => ?_⟩
      · exact k (.inr g) H1 k1 e1
      · exact kE (fun z => z.elim hm g) H1 k1
theorem b_Behind_Rule_init (T : Txt K mg) : Binds K (fdOf K ("Rule", some "__init__")) ["self", "many"] [] := T.d_Behind_Rule_init.bindsN fun _ _ _ _ _ _ us hl => match us, hl with | [_, _], _ => rfl
theorem sc_Behind_init : FnScope ["self", "start", "gap", "wide", "many"] ["self", "start", "gap", "wide", "many"] (defScope s_Behind_init) := ⟨rfl, rfl, rfl, by decide +kernel, rfl, by decide +kernel, by decide +kernel⟩
structure sp_Behind_init (K : PySem.W.Frag) (vs : List V) (H : Hp) (Q : VK) (E : XK) : Prop where
  tt : Go
  ex : ∃ (p dx : Addr) (a b c d : V), vs = [.ref p, a, b, c, d] ∧ H p = some (.ins (He.ga K "Behind") dx []) ∧ Base K H a ∧ Base K H b ∧ Base K H c ∧ Base K H d ∧
    (behindOk a b c d → ∀ H', Keep p H H' → H' p = some (.ins (He.ga K "Behind") dx [("many", d), ("start", a), ("gap", b), ("wide", c)]) → Q .non H') ∧
    (¬ behindOk a b c d → ∀ H', Keep p H H' → E (.ref (He.ga K "NoRule")) none H')
set_option maxHeartbeats 4000000 in
theorem ok_Behind_init (T : Txt K mg) : FnOk P w K mg base (L2.CX P w) 4 (He.fAd K ("Behind", some "__init__")) (fdOf K ("Behind", some "__init__")) ["self", "start", "gap", "wide", "many"] (sp_Behind_init K) := by
  refine T.d_Behind_init.ok sc_Behind_init (fun vs H Q E h => ?_) (fun cdv A outer s H vs Q E hr h => ?_)
  · obtain ⟨p, dx, a, b, c, d, rfl, _⟩ := h.ex
    rfl
  · obtain ⟨p, dx, a, b, c, d, rfl, hp, ha, hb, hc, hd, k, kE⟩ := h.ex
    refine ⟨_, (pss_cons (ps_expr (pe_clsfn T.q_Rule___init__ (ok_Behind_Rule_init T) (hr.mono (by decide)) rfl T.g_Rule (b_Behind_Rule_init T) .nil (passes_call (takes_of rfl rfl rfl rfl) (fun _ _ _ _ z => z)) (pa_cons (pv 0) (pa_cons (pv 4) pa_nil))))
      (pss_cons (ps_fldN (pv 0) (pe_call (ok_checked T) (hr.mono (by decide)) rfl T.g_checked T.d_checked.kp (b_checked T) .nil (passes_call (takes_of rfl rfl rfl rfl) (fun _ _ _ _ z => z)) (pa_cons (pv 1) (pa_cons pe_int pa_nil))) rfl)
      (pss_cons (ps_fldN (pv 0) (pe_call (ok_checked T) (hr.mono (by decide)) rfl T.g_checked T.d_checked.kp (b_checked T) .nil (passes_call (takes_of rfl rfl rfl rfl) (fun _ _ _ _ z => z)) (pa_cons (pv 2) (pa_cons pe_int pa_nil))) rfl)
      (pss_one (ps_fldN (pv 0) (pe_call (ok_checked T) (hr.mono (by decide)) rfl T.g_checked T.d_checked.kp (b_checked T) .nil (passes_call (takes_of rfl rfl rfl rfl) (fun _ _ _ _ z => z)) (pa_cons (pv 3) (pa_cons pe_int pa_nil))) rfl))))), ?_⟩
    walk_at "rd"
    refine ⟨.go, p, dx, d, rfl, hp, hd, fun gd H1 k1 e1 => ?_, fun g H1 k1 => kE (fun z => g z.2.1) H1 k1⟩
    walk_at "rd"
    refine ⟨.go, a, 0, rfl, ha.keep k1 hp, fun ga => ?_, fun g => kE (fun z => g z.1) H1 k1⟩
    refine ⟨_, rfl, p, _, dx, _, rfl, e1, T.c_Behind, T.n_Behind_start, few (by kernel_rfl), fun H2 k2 e2 => ?_⟩
    have k12 := k1.trans k2
    walk_at "rd"
    refine ⟨.go, b, 1, rfl, hb.keep k12 hp, fun gb => ?_, fun g => kE (fun z => g z.2.2.1) H2 k12⟩
    refine ⟨_, rfl, p, _, dx, _, rfl, e2, T.c_Behind, T.n_Behind_gap, few (by kernel_rfl), fun H3 k3 e3 => ?_⟩
    have k13 := k12.trans k3
    walk_at "rd"
    refine ⟨.go, c, 0, rfl, hc.keep k13 hp, fun gc => ?_, fun g => kE (fun z => g z.2.2.2) H3 k13⟩
    refine ⟨_, rfl, p, _, dx, _, rfl, e3, T.c_Behind, T.n_Behind_wide, few (by kernel_rfl), fun H4 k4 e4 => ?_⟩
    refine k ⟨ga, gd, gb, gc⟩ H4 (k13.trans k4) ?_
    rw [e4]
    exact congrArg (fun l => some (HO.ins (He.ga K "Behind") dx l)) (by kernel_rfl)
theorem bn_Behind_init_5 (T : Txt K mg) : ∃ ds, Vals (([.int 0, .non] : List V).drop 2) ds ∧ Binds K (fdOf K ("Behind", some "__init__")) ["self", "start", "gap", "wide", "many"] ds := T.d_Behind_init.binds1 5 2 (by simp) rfl fun _ _ _ _ _ _ _ us its h1 h2 => match us, its, h1, h2 with | [_, _, _, _, _], [_, _], _, _ => ⟨_, rfl, rfl⟩
theorem sc_Slowing_Rule_init : FnScope ["self", "many"] ["self", "many"] (defScope s_Slowing_Rule_init) := ⟨rfl, rfl, rfl, by decide +kernel, rfl, by decide +kernel, by decide +kernel⟩
structure sp_Slowing_Rule_init (K : PySem.W.Frag) (vs : List V) (H : Hp) (Q : VK) (E : XK) : Prop where
  tt : Go
  ex : ∃ (p dx : Addr) (m : V), vs = [.ref p, m] ∧ H p = some (.ins (He.ga K "Slowing") dx []) ∧ Base K H m ∧ (goodM m → ∀ H', Keep p H H' → H' p = some (.ins (He.ga K "Slowing") dx [("many", m)]) → Q .non H') ∧
    (¬ goodM m → ∀ H', Keep p H H' → E (.ref (He.ga K "NoRule")) none H')
set_option maxHeartbeats 4000000 in
theorem ok_Slowing_Rule_init (T : Txt K mg) : FnOk P w K mg base (L2.CX P w) 3 (He.fAd K ("Rule", some "__init__")) (fdOf K ("Rule", some "__init__")) ["self", "many"] (sp_Slowing_Rule_init K) := by
  refine T.d_Slowing_Rule_init.ok sc_Slowing_Rule_init (fun vs H Q E h => ?_) (fun cdv A outer s H vs Q E hr h => ?_)
  · obtain ⟨p, dx, m, rfl, _⟩ := h.ex
    rfl
  · obtain ⟨p, dx, m, rfl, hp, hb, k, kE⟩ := h.ex
    refine ⟨_, (pss_cons (ps_fldN (pv 0) (pv 1) rfl)
      (pss_one (ps_if (pt_cmpR op_notN (pv 1) pe_non (nomark _)) (pss_one (ps_expr (pe_call (ok_checked T) (hr.mono (by decide)) rfl T.g_checked T.d_checked.kp (b_checked T) .nil (passes_call (takes_of rfl rfl rfl rfl) (fun _ _ _ _ z => z)) (pa_cons (pv 1) (pa_cons pe_int pa_nil))))) pss_nil))), ?_⟩
    refine ⟨_, rfl, _, rfl, p, _, dx, _, rfl, hp, T.c_Slowing, T.n_Slowing_many, by decide, fun H1 k1 e1 => ?_⟩
    walk_at "rd"
    by_cases hm : m = .non
    · subst hm
      walk_at "rd"
      exact k (.inl rfl) H1 k1 e1
    · refine iteE (c := true) (by simp [hm]) ?_
      walk_at "rd"
      refine ⟨.go, m, 1, rfl, hb.keep k1 hp, fun g => ?_, fun g => ?_⟩
      · exact k (.inr g) H1 k1 e1
      · exact kE (fun z => z.elim hm g) H1 k1
theorem b_Slowing_Rule_init (T : Txt K mg) : Binds K (fdOf K ("Rule", some "__init__")) ["self", "many"] [] := T.d_Slowing_Rule_init.bindsN fun _ _ _ _ _ _ us hl => match us, hl with | [_, _], _ => rfl
theorem sc_Slowing_Behind_init : FnScope ["self", "start", "gap", "wide", "many"] ["self", "start", "gap", "wide", "many"] (defScope s_Slowing_Behind_init) := ⟨rfl, rfl, rfl, by decide +kernel, rfl, by decide +kernel, by decide +kernel⟩
structure sp_Slowing_Behind_init (K : PySem.W.Frag) (vs : List V) (H : Hp) (Q : VK) (E : XK) : Prop where
  tt : Go
  ex : ∃ (p dx : Addr) (a b c d : V), vs = [.ref p, a, b, c, d] ∧ H p = some (.ins (He.ga K "Slowing") dx []) ∧ Base K H a ∧ Base K H b ∧ Base K H c ∧ Base K H d ∧
    (behindOk a b c d → ∀ H', Keep p H H' → H' p = some (.ins (He.ga K "Slowing") dx [("many", d), ("start", a), ("gap", b), ("wide", c)]) → Q .non H') ∧
    (¬ behindOk a b c d → ∀ H', Keep p H H' → E (.ref (He.ga K "NoRule")) none H')
set_option maxHeartbeats 4000000 in
theorem ok_Slowing_Behind_init (T : Txt K mg) : FnOk P w K mg base (L2.CX P w) 4 (He.fAd K ("Behind", some "__init__")) (fdOf K ("Behind", some "__init__")) ["self", "start", "gap", "wide", "many"] (sp_Slowing_Behind_init K) := by
  refine T.d_Slowing_Behind_init.ok sc_Slowing_Behind_init (fun vs H Q E h => ?_) (fun cdv A outer s H vs Q E hr h => ?_)
  · obtain ⟨p, dx, a, b, c, d, rfl, _⟩ := h.ex
    rfl
  · obtain ⟨p, dx, a, b, c, d, rfl, hp, ha, hb, hc, hd, k, kE⟩ := h.ex
    refine ⟨_, (pss_cons (ps_expr (pe_clsfn T.q_Rule___init__ (ok_Slowing_Rule_init T) (hr.mono (by decide)) rfl T.g_Rule (b_Slowing_Rule_init T) .nil (passes_call (takes_of rfl rfl rfl rfl) (fun _ _ _ _ z => z)) (pa_cons (pv 0) (pa_cons (pv 4) pa_nil))))
      (pss_cons (ps_fldN (pv 0) (pe_call (ok_checked T) (hr.mono (by decide)) rfl T.g_checked T.d_checked.kp (b_checked T) .nil (passes_call (takes_of rfl rfl rfl rfl) (fun _ _ _ _ z => z)) (pa_cons (pv 1) (pa_cons pe_int pa_nil))) rfl)
      (pss_cons (ps_fldN (pv 0) (pe_call (ok_checked T) (hr.mono (by decide)) rfl T.g_checked T.d_checked.kp (b_checked T) .nil (passes_call (takes_of rfl rfl rfl rfl) (fun _ _ _ _ z => z)) (pa_cons (pv 2) (pa_cons pe_int pa_nil))) rfl)
      (pss_one (ps_fldN (pv 0) (pe_call (ok_checked T) (hr.mono (by decide)) rfl T.g_checked T.d_checked.kp (b_checked T) .nil (passes_call (takes_of rfl rfl rfl rfl) (fun _ _ _ _ z => z)) (pa_cons (pv 3) (pa_cons pe_int pa_nil))) rfl))))), ?_⟩
    walk_at "rd"
    refine ⟨.go, p, dx, d, rfl, hp, hd, fun gd H1 k1 e1 => ?_, fun g H1 k1 => kE (fun z => g z.2.1) H1 k1⟩
    walk_at "rd"
    refine ⟨.go, a, 0, rfl, ha.keep k1 hp, fun ga => ?_, fun g => kE (fun z => g z.1) H1 k1⟩
    refine ⟨_, rfl, p, _, dx, _, rfl, e1, T.c_Slowing, T.n_Slowing_start, few (by kernel_rfl), fun H2 k2 e2 => ?_⟩
    have k12 := k1.trans k2
    walk_at "rd"
    refine ⟨.go, b, 1, rfl, hb.keep k12 hp, fun gb => ?_, fun g => kE (fun z => g z.2.2.1) H2 k12⟩
    refine ⟨_, rfl, p, _, dx, _, rfl, e2, T.c_Slowing, T.n_Slowing_gap, few (by kernel_rfl), fun H3 k3 e3 => ?_⟩
    have k13 := k12.trans k3
    walk_at "rd"
    refine ⟨.go, c, 0, rfl, hc.keep k13 hp, fun gc => ?_, fun g => kE (fun z => g z.2.2.2) H3 k13⟩
    refine ⟨_, rfl, p, _, dx, _, rfl, e3, T.c_Slowing, T.n_Slowing_wide, few (by kernel_rfl), fun H4 k4 e4 => ?_⟩
    refine k ⟨ga, gd, gb, gc⟩ H4 (k13.trans k4) ?_
    rw [e4]
    exact congrArg (fun l => some (HO.ins (He.ga K "Slowing") dx l)) (by kernel_rfl)
theorem bn_Slowing_Behind_init_5 (T : Txt K mg) : ∃ ds, Vals (([.int 0, .non] : List V).drop 2) ds ∧ Binds K (fdOf K ("Behind", some "__init__")) ["self", "start", "gap", "wide", "many"] ds := T.d_Slowing_Behind_init.binds1 5 2 (by simp) rfl fun _ _ _ _ _ _ _ us its h1 h2 => match us, its, h1, h2 with | [_, _, _, _, _], [_, _], _, _ => ⟨_, rfl, rfl⟩
theorem sc_Slowing_init : FnScope ["self", "start", "gap", "most", "wide", "many"] ["self", "start", "gap", "most", "wide", "many"] (defScope s_Slowing_init) := ⟨rfl, rfl, rfl, by decide +kernel, rfl, by decide +kernel, by decide +kernel⟩
structure sp_Slowing_init (K : PySem.W.Frag) (vs : List V) (H : Hp) (Q : VK) (E : XK) : Prop where
  tt : Go
  ex : ∃ (p dx : Addr) (a b e c d : V), vs = [.ref p, a, b, e, c, d] ∧ H p = some (.ins (He.ga K "Slowing") dx []) ∧ Base K H a ∧ Base K H b ∧ Base K H e ∧ Base K H c ∧ Base K H d ∧
    (slowOk a b e c d → ∀ H', Keep p H H' → H' p = some (.ins (He.ga K "Slowing") dx (fl_Slowing d a b c e)) → Q .non H') ∧
    (¬ slowOk a b e c d → ∀ H', Keep p H H' → E (.ref (He.ga K "NoRule")) none H')
set_option maxHeartbeats 4000000 in
theorem ok_Slowing_init (T : Txt K mg) : FnOk P w K mg base (L2.CX P w) 5 (He.fAd K ("Slowing", some "__init__")) (fdOf K ("Slowing", some "__init__")) ["self", "start", "gap", "most", "wide", "many"] (sp_Slowing_init K) := by
  obtain ⟨ds_bd_Slowing_Behind_init_5, hv_bd_Slowing_Behind_init_5, bd_Slowing_Behind_init_5⟩ := bn_Slowing_Behind_init_5 T
  refine T.d_Slowing_init.ok sc_Slowing_init (fun vs H Q E h => ?_) (fun cdv A outer s H vs Q E hr h => ?_)
  · obtain ⟨p, dx, a, b, e, c, d, rfl, _⟩ := h.ex
    rfl
  · obtain ⟨p, dx, a, b, e, c, d, rfl, hp, ha, hb, he, hc, hd, k, kE⟩ := h.ex
    refine ⟨_, (pss_cons (ps_expr (pe_clsfn T.q_Behind___init__ (ok_Slowing_Behind_init T) (hr.mono (by decide)) rfl T.g_Behind bd_Slowing_Behind_init_5 hv_bd_Slowing_Behind_init_5 (passes_call (takes_of rfl rfl rfl rfl) (fun _ _ _ _ z => z)) (pa_cons (pv 0) (pa_cons (pv 1) (pa_cons (pv 2) (pa_cons (pv 4) (pa_cons (pv 5) pa_nil)))))))
      (pss_one (ps_fldN (pv 0) (pe_call (ok_checked T) (hr.mono (by decide)) rfl T.g_checked T.d_checked.kp (b_checked T) .nil (passes_call (takes_of rfl rfl rfl rfl) (fun _ _ _ _ z => z)) (pa_cons (pv 3) (pa_cons (pv 2) pa_nil))) rfl))), ?_⟩
    walk_at "rd"
    refine ⟨.go, p, dx, a, b, c, d, rfl, hp, ha, hb, hc, hd, fun g H1 k1 e1 => ?_, fun g H1 k1 => kE (fun z => g z.1) H1 k1⟩
    obtain ⟨ga, gd, ⟨i, rfl, hi⟩, gc⟩ := id g
    walk_at "rd"
    refine ⟨.go, e, i, rfl, he.keep k1 hp, fun ge => ?_, fun ge => kE (fun ⟨_, g2, j, e2, e3, h⟩ => ?_) H1 k1⟩
    · refine ⟨_, rfl, p, _, dx, _, rfl, e1, T.c_Slowing, T.n_Slowing_most, few (by kernel_rfl), fun H2 k2 e2 => ?_⟩
      obtain ⟨j, rfl, hj⟩ := ge
      refine k ⟨g, i, j, rfl, rfl, hj⟩ H2 (k1.trans k2) ?_
      rw [e2]
      exact congrArg (fun l => some (HO.ins (He.ga K "Slowing") dx l)) (by kernel_rfl)
    · have e4 := V.int_inj.mp e2
      exact ge ⟨j, e3, by omega⟩
theorem bn_Slowing_init_6 (T : Txt K mg) : ∃ ds, Vals (([.int 0, .non] : List V).drop 2) ds ∧ Binds K (fdOf K ("Slowing", some "__init__")) ["self", "start", "gap", "most", "wide", "many"] ds := T.d_Slowing_init.binds1 6 2 (by simp) rfl fun _ _ _ _ _ _ _ us its h1 h2 => match us, its, h1, h2 with | [_, _, _, _, _, _], [_, _], _, _ => ⟨_, rfl, rfl⟩
theorem sc_rule : FnScope ["_law_script", "_law_many_here", "_law_kind", "_law_start", "_law_gap", "_law_wide"] ["_law_script", "_law_many_here"] (defScope s_rule) := ⟨rfl, rfl, rfl, by decide +kernel, rfl, by decide +kernel, by decide +kernel⟩
structure sp_rule (K : PySem.W.Frag) (vs : List V) (H : Hp) (Q : VK) (E : XK) : Prop where
  tt : Go
  ex : ∃ (a : Addr) (ns : List Int) (m : Option Int), vs = [.ref a, vO m] ∧ SqL K H a (ns.map V.int) ∧ (∀ i, m = some i → 1 ≤ i) ∧ ∀ (r : RD) (p : Addr) (H' : Hp), Same H H' → RuleAt K H' p r → r.ok → (r.many = m ∨ r.many = some 1) → Q (.ref p) H'
set_option maxHeartbeats 4000000 in
theorem ok_rule (T : Txt K mg) : FnOk P w K mg base CX0 7 (He.fAd K ("_law_rule", none)) (fdOf K ("_law_rule", none)) ["_law_script", "_law_many_here"] (sp_rule K) := by
  obtain ⟨ds_bd_Once_init_3, hv_bd_Once_init_3, bd_Once_init_3⟩ := bn_Once_init_3 T
  obtain ⟨ds_bd_Each_init_5, hv_bd_Each_init_5, bd_Each_init_5⟩ := bn_Each_init_5 T
  obtain ⟨ds_bd_Behind_init_5, hv_bd_Behind_init_5, bd_Behind_init_5⟩ := bn_Behind_init_5 T
  obtain ⟨ds_bd_Slowing_init_6, hv_bd_Slowing_init_6, bd_Slowing_init_6⟩ := bn_Slowing_init_6 T
  refine T.d_rule.ok sc_rule (fun vs H Q E h => ?_) (fun cdv A outer s H vs Q E hr h => ?_)
  · obtain ⟨a, ns, m, rfl, _⟩ := h.ex
    rfl
  · obtain ⟨a, ns, m, rfl, hS, hm1, k⟩ := h.ex
    refine ⟨_, (PSs.nox (pss_cons (ps_set (i := 2) sc_rule.nd rfl (Or.inl rfl) (pe_op op_mod (pe_call (ok_cell_at T) (hr.mono (by decide)) rfl T.g_cell_at T.d_cell_at.kp (b_cell_at T) .nil pass0 (pa_cons (pv 0) (pa_cons pe_int pa_nil))) pe_int))
      (pss_cons (ps_set (i := 3) sc_rule.nd rfl (Or.inl rfl) (pe_call (ok_number T) (hr.mono (by decide)) rfl T.g_number T.d_number.kp (b_number T) .nil pass0 (pa_cons (pe_call (ok_cell_at T) (hr.mono (by decide)) rfl T.g_cell_at T.d_cell_at.kp (b_cell_at T) .nil pass0 (pa_cons (pv 0) (pa_cons pe_int pa_nil))) pa_nil)))
      (pss_cons (ps_set (i := 4) sc_rule.nd rfl (Or.inl rfl) (pe_op op_add pe_int (pe_call (ok_number T) (hr.mono (by decide)) rfl T.g_number T.d_number.kp (b_number T) .nil pass0 (pa_cons (pe_call (ok_cell_at T) (hr.mono (by decide)) rfl T.g_cell_at T.d_cell_at.kp (b_cell_at T) .nil pass0 (pa_cons (pv 0) (pa_cons pe_int pa_nil))) pa_nil))))
      (pss_cons (ps_set (i := 5) sc_rule.nd rfl (Or.inl rfl) (pe_call (ok_number T) (hr.mono (by decide)) rfl T.g_number T.d_number.kp (b_number T) .nil pass0 (pa_cons (pe_call (ok_cell_at T) (hr.mono (by decide)) rfl T.g_cell_at T.d_cell_at.kp (b_cell_at T) .nil pass0 (pa_cons (pv 0) (pa_cons pe_int pa_nil))) pa_nil)))
      (pss_cons (ps_if (pt_cmpR op_eq (pv 2) pe_int (nomark _)) (pss_one (ps_ret (pe_makeN T.k_Once (ok_Once_init T) (hr.mono (by decide)) rfl T.g_Once bd_Once_init_3 hv_bd_Once_init_3 passL (pa_cons (pv 3) (pa_cons (pe_op op_add (pv 3) (pv 5)) pa_nil))))) pss_nil)
      (pss_cons (ps_if (pt_cmpR op_eq (pv 2) pe_int (nomark _)) (pss_one (ps_ret (pe_makeN T.k_Each (ok_Each_init T) (hr.mono (by decide)) rfl T.g_Each bd_Each_init_5 hv_bd_Each_init_5 passL (pa_cons (pv 3) (pa_cons (pv 4) (pa_cons (pe_op op_mod (pv 5) (pv 4)) (pa_cons (pv 1) pa_nil))))))) pss_nil)
      (pss_cons (ps_if (pt_cmpR op_eq (pv 2) pe_int (nomark _)) (pss_one (ps_ret (pe_makeN T.k_Behind (ok_Behind_init T) (hr.mono (by decide)) rfl T.g_Behind bd_Behind_init_5 hv_bd_Behind_init_5 passL (pa_cons (pv 3) (pa_cons (pv 4) (pa_cons (pv 5) (pa_cons (pv 1) pa_nil))))))) pss_nil)
      (pss_one (ps_ret (pe_makeN T.k_Slowing (ok_Slowing_init T) (hr.mono (by decide)) rfl T.g_Slowing bd_Slowing_init_6 hv_bd_Slowing_init_6 passL (pa_cons (pv 3) (pa_cons (pv 4) (pa_cons (pe_op op_add (pv 4) (pe_call (ok_number T) (hr.mono (by decide)) rfl T.g_number T.d_number.kp (b_number T) .nil pass0 (pa_cons (pe_call (ok_cell_at T) (hr.mono (by decide)) rfl T.g_cell_at T.d_cell_at.kp (b_cell_at T) .nil pass0 (pa_cons (pv 0) (pa_cons pe_int pa_nil))) pa_nil))) (pa_cons (pv 5) (pa_cons (pv 1) pa_nil)))))))))))))))), ?_⟩
    walk_at "rd"
    have s0 := lnum_0 (cellAt ns 1)
    have s1 := lnum_lt (cellAt ns 1)
    have g0 := lnum_0 (cellAt ns 2)
    have g1 := lnum_lt (cellAt ns 2)
    have w0 := lnum_0 (cellAt ns 3)
    have w1 := lnum_lt (cellAt ns 3)
    have o0 := lnum_0 (cellAt ns 5)
    have o1 := lnum_lt (cellAt ns 5)
    obtain ⟨s, es⟩ : ∃ x, x = lnum (cellAt ns 1) := ⟨_, rfl⟩
    obtain ⟨g, eg⟩ : ∃ x, x = 1 + lnum (cellAt ns 2) := ⟨_, rfl⟩
    obtain ⟨w, ew⟩ : ∃ x, x = lnum (cellAt ns 3) := ⟨_, rfl⟩
    rw [← es, ← ew]
    rw [← es] at s0 s1
    rw [← ew] at w0 w1
    have hv := Int.emod_nonneg w (b := g) (by omega)
    have hv2 := Int.emod_lt_of_pos w (b := g) (by omega)
    refine iteD (fun c => ?_) (fun c => ?_)
    · walk_at "rd"
      intro q dq H2 nq s2 e2
      exact ⟨.go, q, dq, _, _, rfl, e2, base_int, base_int, fun _ H3 k3 e3 => ⟨rfl, k (.once s (s + w)) q H3 (k3.same s2 nq) ⟨dq, e3⟩ ⟨s0, by omega, by omega⟩ (.inr rfl)⟩, fun g => absurd (onceOk_ii s0 (by omega)) g⟩
    walk_at "rd"
    refine iteD (fun c => ?_) (fun c => ?_)
    · rw [show (fun i j => V.int (i + j)) 1 (lnum (cellAt ns 2)) = V.int g by rw [eg]]
      walk_at "rd"
      intro q dq H2 nq s2 e2
      exact ⟨.go, q, dq, _, _, _, _, rfl, e2, base_int, base_int, base_int, base_vO m, fun _ H3 k3 e3 => ⟨rfl, k (.each s g (w % g) m) q H3 (k3.same s2 nq) ⟨dq, e3⟩ ⟨s0, by omega, by omega, by omega, hv, hv2, hm1⟩ (.inl rfl)⟩, fun g => absurd (eachOk_ii s0 (by omega) hv hv2 hm1) g⟩
    walk_at "rd"
    refine iteD (fun c => ?_) (fun c => ?_)
    · walk_at "rd"
      intro q dq H2 nq s2 e2
      rw [show (fun i j => V.int (i + j)) 1 (lnum (cellAt ns 2)) = V.int g by rw [eg]]
      exact ⟨.go, q, dq, _, _, _, _, rfl, e2, base_int, base_int, base_int, base_vO m, fun _ H3 k3 e3 => ⟨rfl, k (.behind s g w m) q H3 (k3.same s2 nq) ⟨dq, e3⟩ ⟨s0, by omega, by omega, by omega, by omega, by omega, hm1⟩ (.inl rfl)⟩, fun g => absurd (behindOk_ii s0 (by omega) (by omega) hm1) g⟩
    walk_at "rd"
    intro q dq H2 nq s2 e2
    rw [show (fun i j => V.int (i + j)) 1 (lnum (cellAt ns 2)) = V.int g by rw [eg]]
    exact ⟨.go, q, dq, _, _, _, _, _, rfl, e2, base_int, base_int, base_int, base_int, base_vO m, fun _ H3 k3 e3 => ⟨rfl, k (.slow s g (g + lnum (cellAt ns 5)) w m) q H3 (k3.same s2 nq) ⟨dq, (by rw [e3, eg] <;> rfl)⟩ ⟨s0, by omega, by omega, by omega, by omega, by omega, by omega, hm1⟩ (.inl rfl)⟩, fun z => absurd (slowOk_ii (mo := 1 + lnum (cellAt ns 2) + lnum (cellAt ns 5)) s0 (by omega) (by omega) (by omega) hm1) z⟩
theorem b_rule (T : Txt K mg) : Binds K (fdOf K ("_law_rule", none)) ["_law_script", "_law_many_here"] [] := T.d_rule.bindsN fun _ _ _ _ _ _ us hl => match us, hl with | [_, _], _ => rfl
theorem sc_many : FnScope ["_law_cell"] ["_law_cell"] (defScope s_many) := ⟨rfl, rfl, rfl, by decide +kernel, rfl, by decide +kernel, by decide +kernel⟩
def lmany (c : Int) : Option Int := if c % 2 = 0 then none else some (1 + lnum (c / 2))
theorem lmany_1 {c i : Int} (h : lmany c = some i) : 1 ≤ i ∧ i ≤ 10 ^ 39 := by
  unfold lmany at h
  split at h
  · cases h
  · have e := Option.some.inj h
    have h1 := lnum_0 (c / 2)
    have h2 := lnum_lt (c / 2)
    omega
structure sp_many (K : PySem.W.Frag) (vs : List V) (H : Hp) (Q : VK) (E : XK) : Prop where
  tt : Go
  ex : ∃ (c : Int), vs = [.int c] ∧ Q (vO (lmany c)) H
set_option maxHeartbeats 4000000 in
theorem ok_many (T : Txt K mg) : FnOk P w K mg base CX0 2 (He.fAd K ("_law_many", none)) (fdOf K ("_law_many", none)) ["_law_cell"] (sp_many K) := by
  refine T.d_many.ok sc_many (fun vs H Q E h => ?_) (fun cdv A outer s H vs Q E hr h => ?_)
  · obtain ⟨c, rfl, _⟩ := h.ex
    rfl
  · obtain ⟨c, rfl, k⟩ := h.ex
    refine ⟨_, (PSs.nox (pss_cons (ps_if (pt_cmpR op_eq (pe_op op_mod (pv 0) pe_int) pe_int (nomark _)) (pss_one (ps_ret pe_non)) pss_nil)
      (pss_one (ps_ret (pe_op op_add pe_int (pe_call (ok_number T) (hr.mono (by decide)) rfl T.g_number T.d_number.kp (b_number T) .nil pass0 (pa_cons (pe_op op_fdiv (pv 0) pe_int) pa_nil))))))), ?_⟩
    walk_at "rd"
    refine iteD (fun e => ?_) (fun e => ?_)
    · rw [show lmany c = none from if_pos (V.int_inj.mp e)] at k
      exact k
    · rw [show lmany c = some (1 + lnum (c / 2)) from if_neg (fun z => e (V.int_inj.mpr z))] at k
      walk_at "rd"
      exact k
theorem b_many (T : Txt K mg) : Binds K (fdOf K ("_law_many", none)) ["_law_cell"] [] := T.d_many.bindsN fun _ _ _ _ _ _ us hl => match us, hl with | [_], _ => rfl
theorem sc_Once_ended : FnScope ["self", "number"] ["self", "number"] (defScope s_Once_ended) := ⟨rfl, rfl, rfl, by decide +kernel, rfl, by decide +kernel, by decide +kernel⟩
structure sp_Once_ended (K : PySem.W.Frag) (vs : List V) (H : Hp) (Q : VK) (E : XK) : Prop where
  tt : Go
  ex : ∃ (p dx : Addr) (a b : V) (n : Int), vs = [.ref p, .int n] ∧ H p = some (.ins (He.ga K "Once") dx (fl_Once (.int 1) a b)) ∧ Q (.bl (decide (1 ≤ n))) H
set_option maxHeartbeats 4000000 in
theorem ok_Once_ended (T : Txt K mg) : FnOk P w K mg base CX0 1 (He.fAd K ("Once", some "ended")) (fdOf K ("Once", some "ended")) ["self", "number"] (sp_Once_ended K) := by
  refine T.d_Once_ended.ok sc_Once_ended (fun vs H Q E h => ?_) (fun cdv A outer s H vs Q E hr h => ?_)
  · obtain ⟨p, dx, a, b, n, rfl, _⟩ := h.ex
    rfl
  · obtain ⟨p, dx, a, b, n, rfl, hp, k⟩ := h.ex
    refine ⟨_, (PSs.nox (pss_one (ps_ret (pe_and (pe_cmpR op_notN (pe_fld (pv 0) rfl) pe_non (nomark _)) (pe_one (pe_cmpR op_ge (pv 1) (pe_fld (pv 0) rfl) (nomark _))))))), ?_⟩
    walk_at "rd"
    refine ⟨p, _, dx, _, _, rfl, hp, T.c_Once, T.n_Once_many, lk_Once_many, ?_⟩
    walk_at "rd"
    refine ⟨p, _, dx, _, _, rfl, hp, T.c_Once, T.n_Once_many, lk_Once_many, ?_⟩
    walk_at "rd"
    exact k
theorem b_Once_ended (T : Txt K mg) : Binds K (fdOf K ("Once", some "ended")) ["self", "number"] [] := T.d_Once_ended.bindsN fun _ _ _ _ _ _ us hl => match us, hl with | [_, _], _ => rfl
theorem sc_Once_begin : FnScope ["self"] ["self"] (defScope s_Once_begin) := ⟨rfl, rfl, rfl, by decide +kernel, rfl, by decide +kernel, by decide +kernel⟩
structure sp_Once_begin (K : PySem.W.Frag) (vs : List V) (H : Hp) (Q : VK) (E : XK) : Prop where
  tt : Go
  ex : ∃ (p dx : Addr) (m a b : V), vs = [.ref p] ∧ H p = some (.ins (He.ga K "Once") dx (fl_Once m a b)) ∧ New H (.tup [a, b]) Q
set_option maxHeartbeats 4000000 in
theorem ok_Once_begin (T : Txt K mg) : FnOk P w K mg base CX0 1 (He.fAd K ("Once", some "begin")) (fdOf K ("Once", some "begin")) ["self"] (sp_Once_begin K) := by
  refine T.d_Once_begin.ok sc_Once_begin (fun vs H Q E h => ?_) (fun cdv A outer s H vs Q E hr h => ?_)
  · obtain ⟨p, dx, m, a, b, rfl, _⟩ := h.ex
    rfl
  · obtain ⟨p, dx, m, a, b, rfl, hp, k⟩ := h.ex
    refine ⟨_, (PSs.nox (pss_one (ps_ret (pe_tupN (pa_cons (pe_fld (pv 0) rfl) (pa_cons (pe_fld (pv 0) rfl) pa_nil)))))), ?_⟩
    walk_at "rd"
    refine ⟨p, _, dx, _, _, rfl, hp, T.c_Once, T.n_Once_first, lk_Once_first, ?_⟩
    walk_at "rd"
    refine ⟨p, _, dx, _, _, rfl, hp, T.c_Once, T.n_Once_last, lk_Once_last, ?_⟩
    walk_at "rd"
    exact k
theorem b_Once_begin (T : Txt K mg) : Binds K (fdOf K ("Once", some "begin")) ["self"] [] := T.d_Once_begin.bindsN fun _ _ _ _ _ _ us hl => match us, hl with | [_], _ => rfl
theorem sc_Once_next_of : FnScope ["self", "number", "settled"] ["self", "number", "settled"] (defScope s_Once_next_of) := ⟨rfl, rfl, rfl, by decide +kernel, rfl, by decide +kernel, by decide +kernel⟩
structure sp_Once_next_of (K : PySem.W.Frag) (vs : List V) (H : Hp) (Q : VK) (E : XK) : Prop where
  tt : Go
  ex : ∃ (p dx : Addr) (m a b : V) (n s : Int), vs = [.ref p, .int n, .int s] ∧ H p = some (.ins (He.ga K "Once") dx (fl_Once m a b)) ∧ New H (.tup [a, b]) Q
set_option maxHeartbeats 4000000 in
theorem ok_Once_next_of (T : Txt K mg) : FnOk P w K mg base CX0 2 (He.fAd K ("Once", some "next_of")) (fdOf K ("Once", some "next_of")) ["self", "number", "settled"] (sp_Once_next_of K) := by
  refine T.d_Once_next_of.ok sc_Once_next_of (fun vs H Q E h => ?_) (fun cdv A outer s H vs Q E hr h => ?_)
  · obtain ⟨p, dx, m, a, b, n, s, rfl, _⟩ := h.ex
    rfl
  · obtain ⟨p, dx, m, a, b, n, s, rfl, hp, k⟩ := h.ex
    refine ⟨_, (PSs.nox (pss_one (ps_ret (pe_meth0 (pv 0) T.c_Once T.m_Once_begin (ok_Once_begin T) (hr.mono (by decide)) (b_Once_begin T) .nil pass0)))), ?_⟩
    walk_at "rd"
    refine ⟨p, dx, _, rfl, hp, nl_Once_begin, .go, p, dx, m, a, b, rfl, hp, k⟩
theorem b_Once_next_of (T : Txt K mg) : Binds K (fdOf K ("Once", some "next_of")) ["self", "number", "settled"] [] := T.d_Once_next_of.bindsN fun _ _ _ _ _ _ us hl => match us, hl with | [_, _, _], _ => rfl
theorem sc_Once_follow : FnScope ["self", "number", "settled"] ["self", "number", "settled"] (defScope s_Once_follow) := ⟨rfl, rfl, rfl, by decide +kernel, rfl, by decide +kernel, by decide +kernel⟩
structure sp_Once_follow (K : PySem.W.Frag) (vs : List V) (H : Hp) (Q : VK) (E : XK) : Prop where
  tt : Go
  ex : ∃ (p dx : Addr) (a b : V) (n s : Int), vs = [.ref p, .int n, .int s] ∧ H p = some (.ins (He.ga K "Once") dx (fl_Once (.int 1) a b)) ∧ 0 ≤ n ∧ Q .non H
set_option maxHeartbeats 4000000 in
theorem ok_Once_follow (T : Txt K mg) : FnOk P w K mg base CX0 3 (He.fAd K ("Once", some "follow")) (fdOf K ("Once", some "follow")) ["self", "number", "settled"] (sp_Once_follow K) := by
  refine T.d_Once_follow.ok sc_Once_follow (fun vs H Q E h => ?_) (fun cdv A outer s H vs Q E hr h => ?_)
  · obtain ⟨p, dx, a, b, n, s, rfl, _⟩ := h.ex
    rfl
  · obtain ⟨p, dx, a, b, n, s, rfl, hp, hn, k⟩ := h.ex
    refine ⟨_, (PSs.nox (pss_cons (ps_if (pt_val (pe_meth (pv 0) T.c_Once T.m_Once_ended (ok_Once_ended T) (hr.mono (by decide)) (b_Once_ended T) .nil pass0 (pa_cons (pe_op op_add (pv 1) pe_int) pa_nil))) (pss_one (ps_ret pe_non)) pss_nil)
      (pss_one (ps_ret (pe_meth (pv 0) T.c_Once T.m_Once_next_of (ok_Once_next_of T) (hr.mono (by decide)) (b_Once_next_of T) .nil pass0 (pa_cons (pv 1) (pa_cons (pv 2) pa_nil))))))), ?_⟩
    walk_at "rd"
    refine ⟨p, dx, _, rfl, hp, nl_Once_ended, ?_⟩
    walk_at "rd"
    refine ⟨.go, p, dx, a, b, n + 1, rfl, hp, ?_⟩
    walk_at "rd"
    refine iteDT (by omega) ?_
    walk_at "rd"
    exact k
theorem b_Once_follow (T : Txt K mg) : Binds K (fdOf K ("Once", some "follow")) ["self", "number", "settled"] [] := T.d_Once_follow.bindsN fun _ _ _ _ _ _ us hl => match us, hl with | [_, _, _], _ => rfl
theorem sc_Each_ended : FnScope ["self", "number"] ["self", "number"] (defScope s_Each_ended) := ⟨rfl, rfl, rfl, by decide +kernel, rfl, by decide +kernel, by decide +kernel⟩
structure sp_Each_ended (K : PySem.W.Frag) (vs : List V) (H : Hp) (Q : VK) (E : XK) : Prop where
  tt : Go
  ex : ∃ (p dx : Addr) (fs : List (Str × V)) (m : Option Int) (n : Int), vs = [.ref p, .int n] ∧ H p = some (.ins (He.ga K "Each") dx fs) ∧ fs.lookup ("many" : Str) = some (vO m) ∧ Q (.bl (endedM m n)) H
set_option maxHeartbeats 4000000 in
theorem ok_Each_ended (T : Txt K mg) : FnOk P w K mg base CX0 1 (He.fAd K ("Each", some "ended")) (fdOf K ("Each", some "ended")) ["self", "number"] (sp_Each_ended K) := by
  refine T.d_Each_ended.ok sc_Each_ended (fun vs H Q E h => ?_) (fun cdv A outer s H vs Q E hr h => ?_)
  · obtain ⟨p, dx, fs, m, n, rfl, _⟩ := h.ex
    rfl
  · obtain ⟨p, dx, fs, m, n, rfl, hp, hf, k⟩ := h.ex
    refine ⟨_, (PSs.nox (pss_one (ps_ret (pe_and (pe_cmpR op_notN (pe_fld (pv 0) rfl) pe_non (nomark _)) (pe_one (pe_cmpR op_ge (pv 1) (pe_fld (pv 0) rfl) (nomark _))))))), ?_⟩
    walk_at "rd"
    refine ⟨p, _, dx, _, _, rfl, hp, T.c_Each, T.n_Each_many, hf, ?_⟩
    walk_at "rd"
    cases m with
    | none =>
      walk_at "rd"
      exact k
    | some i =>
      walk_at "rd"
      refine ⟨p, _, dx, _, _, rfl, hp, T.c_Each, T.n_Each_many, hf, ?_⟩
      walk_at "rd"
      exact k
theorem b_Each_ended (T : Txt K mg) : Binds K (fdOf K ("Each", some "ended")) ["self", "number"] [] := T.d_Each_ended.bindsN fun _ _ _ _ _ _ us hl => match us, hl with | [_, _], _ => rfl
theorem sc_Each_stretch_at : FnScope ["self", "number", "first"] ["self", "number"] (defScope s_Each_stretch_at) := ⟨rfl, rfl, rfl, by decide +kernel, rfl, by decide +kernel, by decide +kernel⟩
structure sp_Each_stretch_at (K : PySem.W.Frag) (vs : List V) (H : Hp) (Q : VK) (E : XK) : Prop where
  tt : Go
  ex : ∃ (p dx : Addr) (m : V) (s st w n : Int), vs = [.ref p, .int n] ∧ H p = some (.ins (He.ga K "Each") dx (fl_Each m (.int s) (.int st) (.int w))) ∧ n.natAbs < 2 ^ 250 ∧ st.natAbs < 2 ^ 250 ∧
    New H (.tup [.int (s + n * st), .int (s + n * st + w)]) Q
set_option maxHeartbeats 4000000 in
theorem ok_Each_stretch_at (T : Txt K mg) : FnOk P w K mg base CX0 1 (He.fAd K ("Each", some "stretch_at")) (fdOf K ("Each", some "stretch_at")) ["self", "number"] (sp_Each_stretch_at K) := by
  refine T.d_Each_stretch_at.ok sc_Each_stretch_at (fun vs H Q E h => ?_) (fun cdv A outer s H vs Q E hr h => ?_)
  · obtain ⟨p, dx, m, s, st, w, n, rfl, _⟩ := h.ex
    rfl
  · obtain ⟨p, dx, m, s, st, w, n, rfl, hp, hn, hs, k⟩ := h.ex
    refine ⟨_, (PSs.nox (pss_cons (ps_set (i := 2) sc_Each_stretch_at.nd rfl (Or.inl rfl) (pe_op op_add (pe_fld (pv 0) rfl) (pe_op op_mulW (pv 1) (pe_fld (pv 0) rfl))))
      (pss_one (ps_ret (pe_tupN (pa_cons (pv 2) (pa_cons (pe_op op_add (pv 2) (pe_fld (pv 0) rfl)) pa_nil))))))), ?_⟩
    walk_at "rd"
    walk_at "Each.start"
    walk_at "rd"
    walk_at "Each.step"
    refine ⟨_, _, rfl, rfl, bigM hn hs, ?_⟩
    walk_at "rd"
    walk_at "Each.wide"
    walk_at "rd"
    exact k
theorem b_Each_stretch_at (T : Txt K mg) : Binds K (fdOf K ("Each", some "stretch_at")) ["self", "number"] [] := T.d_Each_stretch_at.bindsN fun _ _ _ _ _ _ us hl => match us, hl with | [_, _], _ => rfl
theorem sc_Each_next_of : FnScope ["self", "number", "settled"] ["self", "number", "settled"] (defScope s_Each_next_of) := ⟨rfl, rfl, rfl, by decide +kernel, rfl, by decide +kernel, by decide +kernel⟩
structure sp_Each_next_of (K : PySem.W.Frag) (vs : List V) (H : Hp) (Q : VK) (E : XK) : Prop where
  tt : Go
  ex : ∃ (p dx : Addr) (m : V) (s st w n z : Int), vs = [.ref p, .int n, .int z] ∧ H p = some (.ins (He.ga K "Each") dx (fl_Each m (.int s) (.int st) (.int w))) ∧ (n + 1).natAbs < 2 ^ 250 ∧ st.natAbs < 2 ^ 250 ∧
    New H (.tup [.int (s + (n + 1) * st), .int (s + (n + 1) * st + w)]) Q
set_option maxHeartbeats 4000000 in
theorem ok_Each_next_of (T : Txt K mg) : FnOk P w K mg base CX0 2 (He.fAd K ("Each", some "next_of")) (fdOf K ("Each", some "next_of")) ["self", "number", "settled"] (sp_Each_next_of K) := by
  refine T.d_Each_next_of.ok sc_Each_next_of (fun vs H Q E h => ?_) (fun cdv A outer s H vs Q E hr h => ?_)
  · obtain ⟨p, dx, m, s, st, w, n, z, rfl, _⟩ := h.ex
    rfl
  · obtain ⟨p, dx, m, s, st, w, n, z, rfl, hp, hn, hs, k⟩ := h.ex
    refine ⟨_, (PSs.nox (pss_one (ps_ret (pe_meth (pv 0) T.c_Each T.m_Each_stretch_at (ok_Each_stretch_at T) (hr.mono (by decide)) (b_Each_stretch_at T) .nil pass0 (pa_cons (pe_op op_add (pv 1) pe_int) pa_nil))))), ?_⟩
    walk_at "rd"
    refine ⟨p, dx, _, rfl, hp, nl_Each_stretch_at, ?_⟩
    walk_at "rd"
    exact ⟨.go, p, dx, m, s, st, w, n + 1, rfl, hp, hn, hs, k⟩
theorem b_Each_next_of (T : Txt K mg) : Binds K (fdOf K ("Each", some "next_of")) ["self", "number", "settled"] [] := T.d_Each_next_of.bindsN fun _ _ _ _ _ _ us hl => match us, hl with | [_, _, _], _ => rfl
theorem sc_Each_follow : FnScope ["self", "number", "settled"] ["self", "number", "settled"] (defScope s_Each_follow) := ⟨rfl, rfl, rfl, by decide +kernel, rfl, by decide +kernel, by decide +kernel⟩
structure sp_Each_follow (K : PySem.W.Frag) (vs : List V) (H : Hp) (Q : VK) (E : XK) : Prop where
  tt : Go
  ex : ∃ (p dx : Addr) (m : Option Int) (s st w n z : Int), vs = [.ref p, .int n, .int z] ∧ H p = some (.ins (He.ga K "Each") dx (fl_Each (vO m) (.int s) (.int st) (.int w))) ∧ (n + 1).natAbs < 2 ^ 250 ∧ st.natAbs < 2 ^ 250 ∧
    (endedM m (n + 1) = false → New H (.tup [.int (s + (n + 1) * st), .int (s + (n + 1) * st + w)]) Q) ∧ (endedM m (n + 1) = true → Q .non H)
set_option maxHeartbeats 4000000 in
theorem ok_Each_follow (T : Txt K mg) : FnOk P w K mg base CX0 3 (He.fAd K ("Each", some "follow")) (fdOf K ("Each", some "follow")) ["self", "number", "settled"] (sp_Each_follow K) := by
  refine T.d_Each_follow.ok sc_Each_follow (fun vs H Q E h => ?_) (fun cdv A outer s H vs Q E hr h => ?_)
  · obtain ⟨p, dx, m, s, st, w, n, z, rfl, _⟩ := h.ex
    rfl
  · obtain ⟨p, dx, m, s, st, w, n, z, rfl, hp, hn, hs, k, kN⟩ := h.ex
    refine ⟨_, (PSs.nox (pss_cons (ps_if (pt_val (pe_meth (pv 0) T.c_Each T.m_Each_ended (ok_Each_ended T) (hr.mono (by decide)) (b_Each_ended T) .nil pass0 (pa_cons (pe_op op_add (pv 1) pe_int) pa_nil))) (pss_one (ps_ret pe_non)) pss_nil)
      (pss_one (ps_ret (pe_meth (pv 0) T.c_Each T.m_Each_next_of (ok_Each_next_of T) (hr.mono (by decide)) (b_Each_next_of T) .nil pass0 (pa_cons (pv 1) (pa_cons (pv 2) pa_nil))))))), ?_⟩
    walk_at "rd"
    refine ⟨p, dx, _, rfl, hp, nl_Each_ended, ?_⟩
    walk_at "rd"
    refine ⟨.go, p, dx, _, m, n + 1, rfl, hp, lk_Each_many, ?_⟩
    walk_at "rd"
    refine iteB (fun h => ?_) (fun h => ?_)
    · exact kN h
    · walk_at "rd"
      refine ⟨p, dx, _, rfl, hp, nl_Each_next_of, ?_⟩
      walk_at "rd"
      exact ⟨.go, p, dx, _, s, st, w, n, z, rfl, hp, hn, hs, k h⟩
theorem b_Each_follow (T : Txt K mg) : Binds K (fdOf K ("Each", some "follow")) ["self", "number", "settled"] [] := T.d_Each_follow.bindsN fun _ _ _ _ _ _ us hl => match us, hl with | [_, _, _], _ => rfl
theorem sc_Behind_ended : FnScope ["self", "number"] ["self", "number"] (defScope s_Behind_ended) := ⟨rfl, rfl, rfl, by decide +kernel, rfl, by decide +kernel, by decide +kernel⟩
structure sp_Behind_ended (K : PySem.W.Frag) (vs : List V) (H : Hp) (Q : VK) (E : XK) : Prop where
  tt : Go
  ex : ∃ (p dx : Addr) (fs : List (Str × V)) (m : Option Int) (n : Int), vs = [.ref p, .int n] ∧ H p = some (.ins (He.ga K "Behind") dx fs) ∧ fs.lookup ("many" : Str) = some (vO m) ∧ Q (.bl (endedM m n)) H
set_option maxHeartbeats 4000000 in
theorem ok_Behind_ended (T : Txt K mg) : FnOk P w K mg base CX0 1 (He.fAd K ("Behind", some "ended")) (fdOf K ("Behind", some "ended")) ["self", "number"] (sp_Behind_ended K) := by
  refine T.d_Behind_ended.ok sc_Behind_ended (fun vs H Q E h => ?_) (fun cdv A outer s H vs Q E hr h => ?_)
  · obtain ⟨p, dx, fs, m, n, rfl, _⟩ := h.ex
    rfl
  · obtain ⟨p, dx, fs, m, n, rfl, hp, hf, k⟩ := h.ex
    refine ⟨_, (PSs.nox (pss_one (ps_ret (pe_and (pe_cmpR op_notN (pe_fld (pv 0) rfl) pe_non (nomark _)) (pe_one (pe_cmpR op_ge (pv 1) (pe_fld (pv 0) rfl) (nomark _))))))), ?_⟩
    walk_at "rd"
    refine ⟨p, _, dx, _, _, rfl, hp, T.c_Behind, T.n_Behind_many, hf, ?_⟩
    walk_at "rd"
    cases m with
    | none =>
      walk_at "rd"
      exact k
    | some i =>
      walk_at "rd"
      refine ⟨p, _, dx, _, _, rfl, hp, T.c_Behind, T.n_Behind_many, hf, ?_⟩
      walk_at "rd"
      exact k
theorem b_Behind_ended (T : Txt K mg) : Binds K (fdOf K ("Behind", some "ended")) ["self", "number"] [] := T.d_Behind_ended.bindsN fun _ _ _ _ _ _ us hl => match us, hl with | [_, _], _ => rfl
theorem sc_Behind_gap_at : FnScope ["self", "number"] ["self", "number"] (defScope s_Behind_gap_at) := ⟨rfl, rfl, rfl, by decide +kernel, rfl, by decide +kernel, by decide +kernel⟩
structure sp_Behind_gap_at (K : PySem.W.Frag) (vs : List V) (H : Hp) (Q : VK) (E : XK) : Prop where
  tt : Go
  ex : ∃ (p dx : Addr) (fs : List (Str × V)) (g n : Int), vs = [.ref p, .int n] ∧ H p = some (.ins (He.ga K "Behind") dx fs) ∧ fs.lookup ("gap" : Str) = some (.int g) ∧ Q (.int g) H
set_option maxHeartbeats 4000000 in
theorem ok_Behind_gap_at (T : Txt K mg) : FnOk P w K mg base CX0 1 (He.fAd K ("Behind", some "gap_at")) (fdOf K ("Behind", some "gap_at")) ["self", "number"] (sp_Behind_gap_at K) := by
  refine T.d_Behind_gap_at.ok sc_Behind_gap_at (fun vs H Q E h => ?_) (fun cdv A outer s H vs Q E hr h => ?_)
  · obtain ⟨p, dx, fs, g, n, rfl, _⟩ := h.ex
    rfl
  · obtain ⟨p, dx, fs, g, n, rfl, hp, h1, k⟩ := h.ex
    refine ⟨_, (PSs.nox (pss_one (ps_ret (pe_fld (pv 0) rfl)))), ?_⟩
    walk_at "rd"
    refine ⟨p, _, dx, _, _, rfl, hp, T.c_Behind, T.n_Behind_gap, h1, ?_⟩
    exact k
theorem b_Behind_gap_at (T : Txt K mg) : Binds K (fdOf K ("Behind", some "gap_at")) ["self", "number"] [] := T.d_Behind_gap_at.bindsN fun _ _ _ _ _ _ us hl => match us, hl with | [_, _], _ => rfl
theorem sc_Behind_next_of : FnScope ["self", "number", "settled", "first"] ["self", "number", "settled"] (defScope s_Behind_next_of) := ⟨rfl, rfl, rfl, by decide +kernel, rfl, by decide +kernel, by decide +kernel⟩
structure sp_Behind_next_of (K : PySem.W.Frag) (vs : List V) (H : Hp) (Q : VK) (E : XK) : Prop where
  tt : Go
  ex : ∃ (p dx : Addr) (m : V) (s g w n z : Int), vs = [.ref p, .int n, .int z] ∧ H p = some (.ins (He.ga K "Behind") dx (fl_Behind m (.int s) (.int g) (.int w))) ∧ New H (.tup [.int (z + g), .int (z + g + w)]) Q
set_option maxHeartbeats 4000000 in
theorem ok_Behind_next_of (T : Txt K mg) : FnOk P w K mg base CX0 2 (He.fAd K ("Behind", some "next_of")) (fdOf K ("Behind", some "next_of")) ["self", "number", "settled"] (sp_Behind_next_of K) := by
  refine T.d_Behind_next_of.ok sc_Behind_next_of (fun vs H Q E h => ?_) (fun cdv A outer s H vs Q E hr h => ?_)
  · obtain ⟨p, dx, m, s, g, w, n, z, rfl, _⟩ := h.ex
    rfl
  · obtain ⟨p, dx, m, s, g, w, n, z, rfl, hp, k⟩ := h.ex
    refine ⟨_, (PSs.nox (pss_cons (ps_set (i := 3) sc_Behind_next_of.nd rfl (Or.inl rfl) (pe_op op_add (pv 2) (pe_meth (pv 0) T.c_Behind T.m_Behind_gap_at (ok_Behind_gap_at T) (hr.mono (by decide)) (b_Behind_gap_at T) .nil pass0 (pa_cons (pe_op op_add (pv 1) pe_int) pa_nil))))
      (pss_one (ps_ret (pe_tupN (pa_cons (pv 3) (pa_cons (pe_op op_add (pv 3) (pe_fld (pv 0) rfl)) pa_nil))))))), ?_⟩
    walk_at "rd"
    refine ⟨p, dx, _, rfl, hp, nl_Behind_gap_at, ?_⟩
    walk_at "rd"
    refine ⟨.go, p, dx, _, g, n + 1, rfl, hp, lk_Behind_gap, ?_⟩
    walk_at "rd"
    walk_at "Behind.wide"
    walk_at "rd"
    exact k
theorem b_Behind_next_of (T : Txt K mg) : Binds K (fdOf K ("Behind", some "next_of")) ["self", "number", "settled"] [] := T.d_Behind_next_of.bindsN fun _ _ _ _ _ _ us hl => match us, hl with | [_, _, _], _ => rfl
theorem sc_Behind_follow : FnScope ["self", "number", "settled"] ["self", "number", "settled"] (defScope s_Behind_follow) := ⟨rfl, rfl, rfl, by decide +kernel, rfl, by decide +kernel, by decide +kernel⟩
structure sp_Behind_follow (K : PySem.W.Frag) (vs : List V) (H : Hp) (Q : VK) (E : XK) : Prop where
  tt : Go
  ex : ∃ (p dx : Addr) (m : Option Int) (s g w n z : Int), vs = [.ref p, .int n, .int z] ∧ H p = some (.ins (He.ga K "Behind") dx (fl_Behind (vO m) (.int s) (.int g) (.int w))) ∧
    (endedM m (n + 1) = false → New H (.tup [.int (z + g), .int (z + g + w)]) Q) ∧ (endedM m (n + 1) = true → Q .non H)
set_option maxHeartbeats 4000000 in
theorem ok_Behind_follow (T : Txt K mg) : FnOk P w K mg base CX0 3 (He.fAd K ("Behind", some "follow")) (fdOf K ("Behind", some "follow")) ["self", "number", "settled"] (sp_Behind_follow K) := by
  refine T.d_Behind_follow.ok sc_Behind_follow (fun vs H Q E h => ?_) (fun cdv A outer s H vs Q E hr h => ?_)
  · obtain ⟨p, dx, m, s, g, w, n, z, rfl, _⟩ := h.ex
    rfl
  · obtain ⟨p, dx, m, s, g, w, n, z, rfl, hp, k, kN⟩ := h.ex
    refine ⟨_, (PSs.nox (pss_cons (ps_if (pt_val (pe_meth (pv 0) T.c_Behind T.m_Behind_ended (ok_Behind_ended T) (hr.mono (by decide)) (b_Behind_ended T) .nil pass0 (pa_cons (pe_op op_add (pv 1) pe_int) pa_nil))) (pss_one (ps_ret pe_non)) pss_nil)
      (pss_one (ps_ret (pe_meth (pv 0) T.c_Behind T.m_Behind_next_of (ok_Behind_next_of T) (hr.mono (by decide)) (b_Behind_next_of T) .nil pass0 (pa_cons (pv 1) (pa_cons (pv 2) pa_nil))))))), ?_⟩
    walk_at "rd"
    refine ⟨p, dx, _, rfl, hp, nl_Behind_ended, ?_⟩
    walk_at "rd"
    refine ⟨.go, p, dx, _, m, n + 1, rfl, hp, lk_Behind_many, ?_⟩
    walk_at "rd"
    refine iteB (fun h => ?_) (fun h => ?_)
    · exact kN h
    · walk_at "rd"
      refine ⟨p, dx, _, rfl, hp, nl_Behind_next_of, ?_⟩
      walk_at "rd"
      exact ⟨.go, p, dx, _, s, g, w, n, z, rfl, hp, k h⟩
theorem b_Behind_follow (T : Txt K mg) : Binds K (fdOf K ("Behind", some "follow")) ["self", "number", "settled"] [] := T.d_Behind_follow.bindsN fun _ _ _ _ _ _ us hl => match us, hl with | [_, _, _], _ => rfl
theorem sc_Slowing_ended : FnScope ["self", "number"] ["self", "number"] (defScope s_Slowing_ended) := ⟨rfl, rfl, rfl, by decide +kernel, rfl, by decide +kernel, by decide +kernel⟩
structure sp_Slowing_ended (K : PySem.W.Frag) (vs : List V) (H : Hp) (Q : VK) (E : XK) : Prop where
  tt : Go
  ex : ∃ (p dx : Addr) (fs : List (Str × V)) (m : Option Int) (n : Int), vs = [.ref p, .int n] ∧ H p = some (.ins (He.ga K "Slowing") dx fs) ∧ fs.lookup ("many" : Str) = some (vO m) ∧ Q (.bl (endedM m n)) H
set_option maxHeartbeats 4000000 in
theorem ok_Slowing_ended (T : Txt K mg) : FnOk P w K mg base CX0 1 (He.fAd K ("Slowing", some "ended")) (fdOf K ("Slowing", some "ended")) ["self", "number"] (sp_Slowing_ended K) := by
  refine T.d_Slowing_ended.ok sc_Slowing_ended (fun vs H Q E h => ?_) (fun cdv A outer s H vs Q E hr h => ?_)
  · obtain ⟨p, dx, fs, m, n, rfl, _⟩ := h.ex
    rfl
  · obtain ⟨p, dx, fs, m, n, rfl, hp, hf, k⟩ := h.ex
    refine ⟨_, (PSs.nox (pss_one (ps_ret (pe_and (pe_cmpR op_notN (pe_fld (pv 0) rfl) pe_non (nomark _)) (pe_one (pe_cmpR op_ge (pv 1) (pe_fld (pv 0) rfl) (nomark _))))))), ?_⟩
    walk_at "rd"
    refine ⟨p, _, dx, _, _, rfl, hp, T.c_Slowing, T.n_Slowing_many, hf, ?_⟩
    walk_at "rd"
    cases m with
    | none =>
      walk_at "rd"
      exact k
    | some i =>
      walk_at "rd"
      refine ⟨p, _, dx, _, _, rfl, hp, T.c_Slowing, T.n_Slowing_many, hf, ?_⟩
      walk_at "rd"
      exact k
theorem b_Slowing_ended (T : Txt K mg) : Binds K (fdOf K ("Slowing", some "ended")) ["self", "number"] [] := T.d_Slowing_ended.bindsN fun _ _ _ _ _ _ us hl => match us, hl with | [_, _], _ => rfl
theorem sc_Slowing_gap_at : FnScope ["self", "number", "gap"] ["self", "number"] (defScope s_Slowing_gap_at) := ⟨rfl, rfl, rfl, by decide +kernel, rfl, by decide +kernel, by decide +kernel⟩
structure sp_Slowing_gap_at (K : PySem.W.Frag) (vs : List V) (H : Hp) (Q : VK) (E : XK) : Prop where
  tt : Go
  ex : ∃ (p dx : Addr) (m : V) (s g w mo n : Int), vs = [.ref p, .int n] ∧ H p = some (.ins (He.ga K "Slowing") dx (fl_Slowing m (.int s) (.int g) (.int w) (.int mo))) ∧ 1 ≤ g ∧ g ≤ mo ∧ mo < 2 ^ 240 ∧ 1 ≤ n ∧ Q (.int (iter mo (n - 1).toNat g)) H
set_option maxHeartbeats 4000000 in
theorem ok_Slowing_gap_at (T : Txt K mg) : FnOk P w K mg base CX0 1 (He.fAd K ("Slowing", some "gap_at")) (fdOf K ("Slowing", some "gap_at")) ["self", "number"] (sp_Slowing_gap_at K) := by
  refine T.d_Slowing_gap_at.ok sc_Slowing_gap_at (fun vs H Q E h => ?_) (fun cdv A outer s H vs Q E hr h => ?_)
  · obtain ⟨p, dx, m, s, g, w, mo, n, rfl, _⟩ := h.ex
    rfl
  · obtain ⟨p, dx, m, s, g, w, mo, n, rfl, hp, h1, h2, h3, hn, k⟩ := h.ex
    refine ⟨_, (PSs.nox (pss_cons (ps_set (i := 2) sc_Slowing_gap_at.nd rfl (Or.inl rfl) (pe_fld (pv 0) rfl))
      (pss_cons (ps_while PassesOwn.never (pt_monoT (PW.pt (pw_and (pt_cmpR op_gt (pv 1) pe_int (nomark _)) (pw_and1 (pt_cmpR op_lt (pv 2) (pe_fld (pv 0) rfl) (nomark _)))))) (pss_cons (ps_set (i := 2) sc_Slowing_gap_at.nd rfl (Or.inl rfl) (pe_callB (call_min2 rfl) (by rfl) T.z_min (by decide +kernel) (pa_cons (pe_op op_mul pe_int (pv 2)) (pa_cons (pe_fld (pv 0) rfl) pa_nil))))
      (pss_one (ps_set (i := 1) sc_Slowing_gap_at.nd rfl (Or.inl rfl) (pe_op op_sub (pv 1) pe_int)))))
      (pss_one (ps_ret (pv 2)))))), ?_⟩
    walk_at "rd"
    refine ⟨p, _, dx, _, _, rfl, hp, T.c_Slowing, T.n_Slowing_gap, lk_Slowing_gap, ?_⟩
    refine while_w (fun σ H' => ∃ q c, σ = [some (.ref p), some (.int q), some (.int c)] ∧ H' = H ∧ 1 ≤ q ∧ 1 ≤ c ∧ c ≤ mo ∧ iter mo (q - 1).toNat c = iter mo (n - 1).toNat g) (fun σ _ => match σ with
      | [_, some (.int q), _] => q.toNat
      | _ => 0) ⟨n, g, rfl, rfl, hn, h1, h2, rfl⟩ ?_
    rintro σ H' ⟨q, c, rfl, rfl, hq, hc, hm, e⟩
    walk_at "rd"
    refine iteD (fun l1 => ?_) (fun l1 => ?_)
    · walk_at "rd"
      refine ⟨p, _, dx, _, _, rfl, hp, T.c_Slowing, T.n_Slowing_most, lk_Slowing_most, ?_⟩
      walk_at "rd"
      refine iteD (fun l2 => ?_) (fun l2 => ?_)
      · walk_at "rd"
        refine ⟨p, _, dx, _, _, rfl, hp, T.c_Slowing, T.n_Slowing_most, lk_Slowing_most, ?_⟩
        walk_at "rd"
        have b := nxt_bd hc hm
        refine ⟨⟨q - 1, nxt mo c, rfl, rfl, by omega, by omega, b.2, ?_⟩, ?_⟩
        · rw [← e, show (q - 1).toNat = (q - 1 - 1).toNat + 1 by omega] <;> rfl
        · show (q - 1).toNat < q.toNat
          omega
      · walk_at "rd"
        have e2 : c = mo := by omega
        subst e2
        rw [iter_fix (by omega)] at e
        rw [← e] at k
        exact k
    · walk_at "rd"
      rw [show (q - 1).toNat = 0 by omega] at e
      rw [← e] at k
      exact k
theorem b_Slowing_gap_at (T : Txt K mg) : Binds K (fdOf K ("Slowing", some "gap_at")) ["self", "number"] [] := T.d_Slowing_gap_at.bindsN fun _ _ _ _ _ _ us hl => match us, hl with | [_, _], _ => rfl
theorem sc_Slowing_next_of : FnScope ["self", "number", "settled", "first"] ["self", "number", "settled"] (defScope s_Slowing_next_of) := ⟨rfl, rfl, rfl, by decide +kernel, rfl, by decide +kernel, by decide +kernel⟩
structure sp_Slowing_next_of (K : PySem.W.Frag) (vs : List V) (H : Hp) (Q : VK) (E : XK) : Prop where
  tt : Go
  ex : ∃ (p dx : Addr) (m : V) (s g w mo n z : Int), vs = [.ref p, .int n, .int z] ∧ H p = some (.ins (He.ga K "Slowing") dx (fl_Slowing m (.int s) (.int g) (.int w) (.int mo))) ∧ 1 ≤ g ∧ g ≤ mo ∧ mo < 2 ^ 240 ∧ 0 ≤ n ∧
    New H (.tup [.int (z + iter mo n.toNat g), .int (z + iter mo n.toNat g + w)]) Q
set_option maxHeartbeats 4000000 in
theorem ok_Slowing_next_of (T : Txt K mg) : FnOk P w K mg base CX0 2 (He.fAd K ("Slowing", some "next_of")) (fdOf K ("Slowing", some "next_of")) ["self", "number", "settled"] (sp_Slowing_next_of K) := by
  refine T.d_Slowing_next_of.ok sc_Slowing_next_of (fun vs H Q E h => ?_) (fun cdv A outer s H vs Q E hr h => ?_)
  · obtain ⟨p, dx, m, s, g, w, mo, n, z, rfl, _⟩ := h.ex
    rfl
  · obtain ⟨p, dx, m, s, g, w, mo, n, z, rfl, hp, h1, h2, h3, hn, k⟩ := h.ex
    refine ⟨_, (PSs.nox (pss_cons (ps_set (i := 3) sc_Slowing_next_of.nd rfl (Or.inl rfl) (pe_op op_add (pv 2) (pe_meth (pv 0) T.c_Slowing T.m_Slowing_gap_at (ok_Slowing_gap_at T) (hr.mono (by decide)) (b_Slowing_gap_at T) .nil pass0 (pa_cons (pe_op op_add (pv 1) pe_int) pa_nil))))
      (pss_one (ps_ret (pe_tupN (pa_cons (pv 3) (pa_cons (pe_op op_add (pv 3) (pe_fld (pv 0) rfl)) pa_nil))))))), ?_⟩
    walk_at "rd"
    refine ⟨p, dx, _, rfl, hp, nl_Slowing_gap_at, ?_⟩
    walk_at "rd"
    refine ⟨.go, p, dx, _, _, g, w, mo, n + 1, rfl, hp, h1, h2, h3, by omega, ?_⟩
    rw [show (n + 1 - 1).toNat = n.toNat by omega]
    walk_at "rd"
    walk_at "Slowing.wide"
    walk_at "rd"
    exact k
theorem b_Slowing_next_of (T : Txt K mg) : Binds K (fdOf K ("Slowing", some "next_of")) ["self", "number", "settled"] [] := T.d_Slowing_next_of.bindsN fun _ _ _ _ _ _ us hl => match us, hl with | [_, _, _], _ => rfl
theorem sc_Slowing_follow : FnScope ["self", "number", "settled"] ["self", "number", "settled"] (defScope s_Slowing_follow) := ⟨rfl, rfl, rfl, by decide +kernel, rfl, by decide +kernel, by decide +kernel⟩
structure sp_Slowing_follow (K : PySem.W.Frag) (vs : List V) (H : Hp) (Q : VK) (E : XK) : Prop where
  tt : Go
  ex : ∃ (p dx : Addr) (m : Option Int) (s g w mo n z : Int), vs = [.ref p, .int n, .int z] ∧ H p = some (.ins (He.ga K "Slowing") dx (fl_Slowing (vO m) (.int s) (.int g) (.int w) (.int mo))) ∧ 1 ≤ g ∧ g ≤ mo ∧ mo < 2 ^ 240 ∧ 0 ≤ n ∧
    (endedM m (n + 1) = false → New H (.tup [.int (z + iter mo n.toNat g), .int (z + iter mo n.toNat g + w)]) Q) ∧ (endedM m (n + 1) = true → Q .non H)
set_option maxHeartbeats 4000000 in
theorem ok_Slowing_follow (T : Txt K mg) : FnOk P w K mg base CX0 3 (He.fAd K ("Slowing", some "follow")) (fdOf K ("Slowing", some "follow")) ["self", "number", "settled"] (sp_Slowing_follow K) := by
  refine T.d_Slowing_follow.ok sc_Slowing_follow (fun vs H Q E h => ?_) (fun cdv A outer s H vs Q E hr h => ?_)
  · obtain ⟨p, dx, m, s, g, w, mo, n, z, rfl, _⟩ := h.ex
    rfl
  · obtain ⟨p, dx, m, s, g, w, mo, n, z, rfl, hp, h1, h2, h3, hn, k, kN⟩ := h.ex
    refine ⟨_, (PSs.nox (pss_cons (ps_if (pt_val (pe_meth (pv 0) T.c_Slowing T.m_Slowing_ended (ok_Slowing_ended T) (hr.mono (by decide)) (b_Slowing_ended T) .nil pass0 (pa_cons (pe_op op_add (pv 1) pe_int) pa_nil))) (pss_one (ps_ret pe_non)) pss_nil)
      (pss_one (ps_ret (pe_meth (pv 0) T.c_Slowing T.m_Slowing_next_of (ok_Slowing_next_of T) (hr.mono (by decide)) (b_Slowing_next_of T) .nil pass0 (pa_cons (pv 1) (pa_cons (pv 2) pa_nil))))))), ?_⟩
    walk_at "rd"
    refine ⟨p, dx, _, rfl, hp, nl_Slowing_ended, ?_⟩
    walk_at "rd"
    refine ⟨.go, p, dx, _, m, n + 1, rfl, hp, lk_Slowing_many, ?_⟩
    walk_at "rd"
    refine iteB (fun h => ?_) (fun h => ?_)
    · exact kN h
    · walk_at "rd"
      refine ⟨p, dx, _, rfl, hp, nl_Slowing_next_of, ?_⟩
      walk_at "rd"
      exact ⟨.go, p, dx, _, s, g, w, mo, n, z, rfl, hp, h1, h2, h3, hn, k h⟩
theorem b_Slowing_follow (T : Txt K mg) : Binds K (fdOf K ("Slowing", some "follow")) ["self", "number", "settled"] [] := T.d_Slowing_follow.bindsN fun _ _ _ _ _ _ us hl => match us, hl with | [_, _, _], _ => rfl
structure spU_follow (K : PySem.W.Frag) (r : RD) (vs : List V) (H : Hp) (Q : VK) (E : XK) : Prop where
  tt : Go
  ex : ∃ (p : Addr) (n z : Int), vs = [.ref p, .int n, .int z] ∧ RuleAt K H p r ∧ r.ok ∧ 0 ≤ n ∧ n < 2 ^ 200 ∧ (endedM r.many (n + 1) = false → New H (.tup [.int (r.next n z).1, .int (r.next n z).2]) Q) ∧ (endedM r.many (n + 1) = true → Q .non H)
theorem pm_follow_Once {x y : Int} {vs : List V} {H : Hp} {Q : VK} {E : XK} (h : spU_follow K (.once x y) vs H Q E) : sp_Once_follow K (vs ++ []) H Q E := by
  obtain ⟨p, n, z, rfl, ⟨dx, e⟩, ok, h0, h1, k, kN⟩ := h.ex
  exact ⟨.go, p, dx, _, _, n, z, rfl, e, h0, kN (decide_eq_true (by omega))⟩
theorem pm_follow_Each {s st w : Int} {m : Option Int} {vs : List V} {H : Hp} {Q : VK} {E : XK} (h : spU_follow K (.each s st w m) vs H Q E) : sp_Each_follow K (vs ++ []) H Q E := by
  obtain ⟨p, n, z, rfl, ⟨dx, e⟩, ok, h0, h1, k, kN⟩ := h.ex
  obtain ⟨o1, o2, o3, o4, o5, o6, o7⟩ := ok
  exact ⟨.go, p, dx, m, s, st, w, n, z, rfl, e, by omega, by omega, k, kN⟩
theorem pm_follow_Behind {s g w : Int} {m : Option Int} {vs : List V} {H : Hp} {Q : VK} {E : XK} (h : spU_follow K (.behind s g w m) vs H Q E) : sp_Behind_follow K (vs ++ []) H Q E := by
  obtain ⟨p, n, z, rfl, ⟨dx, e⟩, ok, h0, h1, k, kN⟩ := h.ex
  exact ⟨.go, p, dx, m, s, g, w, n, z, rfl, e, k, kN⟩
theorem pm_follow_Slowing {s g mo w : Int} {m : Option Int} {vs : List V} {H : Hp} {Q : VK} {E : XK} (h : spU_follow K (.slow s g mo w m) vs H Q E) : sp_Slowing_follow K (vs ++ []) H Q E := by
  obtain ⟨p, n, z, rfl, ⟨dx, e⟩, ok, h0, h1, k, kN⟩ := h.ex
  obtain ⟨o1, o2, o3, o4, o5, o6, o7, o8⟩ := ok
  exact ⟨.go, p, dx, m, s, g, w, mo, n, z, rfl, e, o3, o4, by omega, h0, k, kN⟩
theorem sc_now : FnScope ["_law_rule_here", "_law_number_here", "_law_last", "_law_cell", "_law_found", "_law_more"] ["_law_rule_here", "_law_number_here", "_law_last", "_law_cell"] (defScope s_now) := ⟨rfl, rfl, rfl, by decide +kernel, rfl, by decide +kernel, by decide +kernel⟩
structure sp_now (K : PySem.W.Frag) (vs : List V) (H : Hp) (Q : VK) (E : XK) : Prop where
  tt : Go
  ex : ∃ (p : Addr) (r : RD) (n l c : Int), vs = [.ref p, .int n, .int l, .int c] ∧ RuleAt K H p r ∧ r.ok ∧ 0 ≤ n ∧ n < 2 ^ 200 ∧ ∀ now H', Same H H' → l ≤ now → (now ≤ l + 10 ^ 39 ∨ now ≤ 2 * 10 ^ 39) → Q (.int now) H'
set_option maxHeartbeats 4000000 in
theorem ok_now (T : Txt K mg) : FnOk P w K mg base CX0 4 (He.fAd K ("_law_now", none)) (fdOf K ("_law_now", none)) ["_law_rule_here", "_law_number_here", "_law_last", "_law_cell"] (sp_now K) := by
  refine T.d_now.ok sc_now (fun vs H Q E h => ?_) (fun cdv A outer s H vs Q E hr h => ?_)
  · obtain ⟨p, r, n, l, c, rfl, _⟩ := h.ex
    rfl
  · obtain ⟨p, r, n, l, c, rfl, hr0, hok, hn, hn2, k⟩ := h.ex
    refine ⟨_, (PSs.nox (pss_cons (ps_set (i := 4) sc_now.nd rfl (Or.inl rfl) (pe_methP (At := RuleAt K) (C := RD.cls K) (sp := spU_follow K) (RuleAt.look nl_Once_follow nl_Each_follow nl_Behind_follow nl_Slowing_follow) (RD.all (fun _ _ => MRow.of T.c_Once T.m_Once_follow (ok_Once_follow T) (hr.mono (by decide)) (b_Once_follow T) .nil pass0 pm_follow_Once) (fun _ _ _ _ => MRow.of T.c_Each T.m_Each_follow (ok_Each_follow T) (hr.mono (by decide)) (b_Each_follow T) .nil pass0 pm_follow_Each) (fun _ _ _ _ => MRow.of T.c_Behind T.m_Behind_follow (ok_Behind_follow T) (hr.mono (by decide)) (b_Behind_follow T) .nil pass0 pm_follow_Behind) (fun _ _ _ _ _ => MRow.of T.c_Slowing T.m_Slowing_follow (ok_Slowing_follow T) (hr.mono (by decide)) (b_Slowing_follow T) .nil pass0 pm_follow_Slowing)) (pv 0) (pa_cons (pv 1) (pa_cons (pv 2) pa_nil))))
      (pss_cons (ps_set (i := 5) sc_now.nd rfl (Or.inl rfl) (pe_call (ok_number T) (hr.mono (by decide)) rfl T.g_number T.d_number.kp (b_number T) .nil pass0 (pa_cons (pe_op op_fdiv (pv 3) pe_int) pa_nil)))
      (pss_cons (ps_if (PW.pt (pw_or (pt_cmpR op_eq (pe_op op_mod (pv 3) pe_int) pe_int (nomark _)) (pw_or (pt_cmpR op_isN (pv 4) pe_non (nomark _)) (pw_or1 (pt_cmpR op_ge (pe_ix ix_tup (pv 4) pe_int (fun _ _ => rfl)) (pe_powC 39) (nomark _)))))) (pss_one (ps_ret (pe_op op_add (pv 2) (pv 5)))) pss_nil)
      (pss_one (ps_ret (pe_callB (call_max2 rfl) (by rfl) T.z_max (by decide +kernel) (pa_cons (pv 2) (pa_cons (pe_op op_add (pe_op op_sub (pe_ix ix_tup (pv 4) pe_int (fun _ _ => rfl)) pe_int) (pe_op op_mod (pv 5) (pe_op op_add (pe_op op_sub (pe_ix ix_tup (pv 4) pe_int (fun _ _ => rfl)) (pe_ix ix_tup (pv 4) pe_int (fun _ _ => rfl))) pe_int))) pa_nil))))))))), ?_⟩
    walk_at "rd"
    refine ⟨r, p, rfl, hr0, ?_⟩
    walk_at "rd"
    have m0 := lnum_0 (c / 2)
    have m1 := lnum_lt (c / 2)
    refine ⟨.go, p, n, l, rfl, hr0, hok, hn, hn2, fun he t H2 ht s2 e2 => ?_, fun he => ?_⟩
    · walk_at "rd"
      have easy : ∀ σ : L2.St, Q (.int (l + lnum (c / 2))) H2 := fun _ => k _ _ s2 (by omega) (.inl (by omega))
      refine iteD (fun h => ?_) (fun h => ?_)
      · walk_at "rd"
        exact easy []
      · walk_at "rd"
        refine iteD (fun h2 => ?_) (fun h2 => ?_)
        · walk_at "rd"
          exact easy []
        · walk_at "rd"
          have hw : (r.next n l).1 ≤ (r.next n l).2 ∧ (r.next n l).2 ≤ (r.next n l).1 + 2 ^ 140 := by
            cases r with
            | once x y => exact ⟨hok.2.1, by have := hok.2.2; have := hok.1; show y ≤ x + 2 ^ 140; omega⟩
            | each s st w m => exact ⟨by show s + (n + 1) * st ≤ s + (n + 1) * st + w; have := hok.2.2.2.2.1; omega, by show s + (n + 1) * st + w ≤ s + (n + 1) * st + 2 ^ 140; have := hok.2.2.2.2.2.1; have := hok.2.2.2.1; omega⟩
            | behind s g w m => exact ⟨by show l + g ≤ l + g + w; have := hok.2.2.2.2.1; omega, by show l + g + w ≤ l + g + 2 ^ 140; have := hok.2.2.2.2.2.1; omega⟩
            | slow s g mo w m => exact ⟨by show l + iter mo n.toNat g ≤ l + iter mo n.toNat g + w; have := hok.2.2.2.2.2.1; omega, by show l + iter mo n.toNat g + w ≤ l + iter mo n.toNat g + 2 ^ 140; have := hok.2.2.2.2.2.2.1; omega⟩
          have h5 := Int.emod_nonneg (lnum (c / 2)) (b := (r.next n l).2 - (r.next n l).1 + 2) (by omega)
          have h6 := Int.emod_lt_of_pos (lnum (c / 2)) (b := (r.next n l).2 - (r.next n l).1 + 2) (by omega)
          refine ⟨(show 0 < (r.next n l).2 - (r.next n l).1 + 2 by omega), ?_⟩
          walk_at "rd"
          refine k _ _ s2 ?_ ?_
          · show l ≤ if (r.next n l).1 - 1 + lnum (c / 2) % ((r.next n l).2 - (r.next n l).1 + 2) > l then _ else l
            split <;> omega
          · show (if (r.next n l).1 - 1 + lnum (c / 2) % ((r.next n l).2 - (r.next n l).1 + 2) > l then _ else l) ≤ _ ∨ (if (r.next n l).1 - 1 + lnum (c / 2) % ((r.next n l).2 - (r.next n l).1 + 2) > l then _ else l) ≤ _
            split
            · right
              omega
            · left
              omega
    · walk_at "rd"
      have easy : ∀ σ : L2.St, Q (.int (l + lnum (c / 2))) H := fun _ => k _ _ (Same.refl H) (by omega) (.inl (by omega))
      refine iteD (fun h => ?_) (fun h => ?_)
      · walk_at "rd"
        exact easy []
      · walk_at "rd"
        exact easy []
theorem b_now (T : Txt K mg) : Binds K (fdOf K ("_law_now", none)) ["_law_rule_here", "_law_number_here", "_law_last", "_law_cell"] [] := T.d_now.bindsN fun _ _ _ _ _ _ us hl => match us, hl with | [_, _, _, _], _ => rfl
theorem sc_Once_onward : FnScope ["self", "number", "last", "now"] ["self", "number", "last", "now"] (defScope s_Once_onward) := ⟨rfl, rfl, rfl, by decide +kernel, rfl, by decide +kernel, by decide +kernel⟩
structure sp_Once_onward (K : PySem.W.Frag) (vs : List V) (H : Hp) (Q : VK) (E : XK) : Prop where
  tt : Go
  ex : ∃ (p dx : Addr) (m a b : V) (n l o : Int), vs = [.ref p, .int n, .int l, .int o] ∧ H p = some (.ins (He.ga K "Once") dx (fl_Once m a b)) ∧
    ∀ (q r : Addr) (H' : Hp), Same H H' → H' q = some (.tup [a, b]) → H' r = some (.tup [.int (n + 1), .ref q]) → Q (.ref r) H'
set_option maxHeartbeats 4000000 in
theorem ok_Once_onward (T : Txt K mg) : FnOk P w K mg base CX0 3 (He.fAd K ("Once", some "onward")) (fdOf K ("Once", some "onward")) ["self", "number", "last", "now"] (sp_Once_onward K) := by
  refine T.d_Once_onward.ok sc_Once_onward (fun vs H Q E h => ?_) (fun cdv A outer s H vs Q E hr h => ?_)
  · obtain ⟨p, dx, m, a, b, n, l, o, rfl, _⟩ := h.ex
    rfl
  · obtain ⟨p, dx, m, a, b, n, l, o, rfl, hp, k⟩ := h.ex
    refine ⟨_, (PSs.nox (pss_one (ps_ret (pe_tupN (pa_cons (pe_op op_add (pv 1) pe_int) (pa_cons (pe_meth (pv 0) T.c_Once T.m_Once_next_of (ok_Once_next_of T) (hr.mono (by decide)) (b_Once_next_of T) .nil pass0 (pa_cons (pv 1) (pa_cons (pv 2) pa_nil))) pa_nil)))))), ?_⟩
    walk_at "rd"
    refine ⟨p, dx, _, rfl, hp, nl_Once_next_of, ?_⟩
    walk_at "rd"
    refine ⟨.go, p, dx, m, a, b, n, l, rfl, hp, fun q H1 hq s1 e1 => ?_⟩
    walk_at "rd"
    exact fun r H2 hr s2 e2 => k q r H2 (s1.trans s2) (s2 _ _ e1) e2
theorem b_Once_onward (T : Txt K mg) : Binds K (fdOf K ("Once", some "onward")) ["self", "number", "last", "now"] [] := T.d_Once_onward.bindsN fun _ _ _ _ _ _ us hl => match us, hl with | [_, _, _, _], _ => rfl
theorem sc_Once_let_by : FnScope ["self", "number", "last", "now", "found"] ["self", "number", "last", "now"] (defScope s_Once_let_by) := ⟨rfl, rfl, rfl, by decide +kernel, rfl, by decide +kernel, by decide +kernel⟩
structure sp_Once_let_by (K : PySem.W.Frag) (vs : List V) (H : Hp) (Q : VK) (E : XK) : Prop where
  tt : Go
  ex : ∃ (p dx : Addr) (a b : V) (n l o : Int), vs = [.ref p, .int n, .int l, .int o] ∧ H p = some (.ins (He.ga K "Once") dx (fl_Once (.int 1) a b)) ∧ 0 ≤ n ∧
    ∀ (r : Addr) (H' : Hp), Same H H' → H' r = some (.tup [.int 1, .non]) → Q (.ref r) H'
set_option maxHeartbeats 4000000 in
theorem ok_Once_let_by (T : Txt K mg) : FnOk P w K mg base CX0 4 (He.fAd K ("Once", some "let_by")) (fdOf K ("Once", some "let_by")) ["self", "number", "last", "now"] (sp_Once_let_by K) := by
  refine T.d_Once_let_by.ok sc_Once_let_by (fun vs H Q E h => ?_) (fun cdv A outer s H vs Q E hr h => ?_)
  · obtain ⟨p, dx, a, b, n, l, o, rfl, _⟩ := h.ex
    rfl
  · obtain ⟨p, dx, a, b, n, l, o, rfl, hp, hn, k⟩ := h.ex
    refine ⟨_, (PSs.nox (pss_cons (ps_set (i := 4) sc_Once_let_by.nd rfl (Or.inl rfl) (pe_meth (pv 0) T.c_Once T.m_Once_onward (ok_Once_onward T) (hr.mono (by decide)) (b_Once_onward T) .nil pass0 (pa_cons (pv 1) (pa_cons (pv 2) (pa_cons (pv 3) pa_nil)))))
      (pss_cons (ps_if (pt_val (pe_meth (pv 0) T.c_Once T.m_Once_ended (ok_Once_ended T) (hr.mono (by decide)) (b_Once_ended T) .nil pass0 (pa_cons (pe_ix ix_tup (pv 4) pe_int (fun _ _ => rfl)) pa_nil))) (pss_one (ps_ret (pe_tupN (pa_cons (pe_fld (pv 0) rfl) (pa_cons pe_non pa_nil))))) pss_nil)
      (pss_one (ps_ret (pv 4)))))), ?_⟩
    walk_at "rd"
    refine ⟨p, dx, _, rfl, hp, nl_Once_onward, ?_⟩
    walk_at "rd"
    refine ⟨.go, p, dx, _, a, b, n, l, o, rfl, hp, fun q r H1 s1 e1 e2 => ?_⟩
    have hp1 := s1 _ _ hp
    walk_at "rd"
    refine ⟨p, dx, _, rfl, hp1, nl_Once_ended, ?_⟩
    walk_at "rd"
    refine ⟨.go, p, dx, a, b, n + 1, rfl, hp1, ?_⟩
    walk_at "rd"
    refine iteDT (by omega) ?_
    walk_at "rd"
    refine ⟨p, _, dx, _, _, rfl, hp1, T.c_Once, T.n_Once_many, lk_Once_many, ?_⟩
    walk_at "rd"
    exact fun r2 H2 hr2 s2 e3 => k r2 H2 (s1.trans s2) e3
theorem b_Once_let_by (T : Txt K mg) : Binds K (fdOf K ("Once", some "let_by")) ["self", "number", "last", "now"] [] := T.d_Once_let_by.bindsN fun _ _ _ _ _ _ us hl => match us, hl with | [_, _, _, _], _ => rfl
theorem sc_Each_onward : FnScope ["self", "number", "last", "now", "ended", "found"] ["self", "number", "last", "now"] (defScope s_Each_onward) := ⟨rfl, rfl, rfl, by decide +kernel, rfl, by decide +kernel, by decide +kernel⟩
structure sp_Each_onward (K : PySem.W.Frag) (vs : List V) (H : Hp) (Q : VK) (E : XK) : Prop where
  tt : Go
  ex : ∃ (p dx : Addr) (m : Option Int) (s st w n l now : Int), vs = [.ref p, .int n, .int l, .int now] ∧ H p = some (.ins (He.ga K "Each") dx (fl_Each (vO m) (.int s) (.int st) (.int w))) ∧ (RD.each s st w m).ok ∧ inB n l now ∧ Onw (.each s st w m) n l now H Q
set_option maxHeartbeats 4000000 in
theorem ok_Each_onward (T : Txt K mg) : FnOk P w K mg base CX0 2 (He.fAd K ("Each", some "onward")) (fdOf K ("Each", some "onward")) ["self", "number", "last", "now"] (sp_Each_onward K) := by
  refine T.d_Each_onward.ok sc_Each_onward (fun vs H Q E h => ?_) (fun cdv A outer s H vs Q E hr h => ?_)
  · obtain ⟨p, dx, m, s, st, w, n, l, now, rfl, _⟩ := h.ex
    rfl
  · obtain ⟨p, dx, m, s, st, w, n, l, now, rfl, hp, hok, hb, k⟩ := h.ex
    refine ⟨_, (PSs.nox (pss_cons (ps_set (i := 4) sc_Each_onward.nd rfl (Or.inl rfl) (pe_op op_fdivW (pe_op op_sub (pe_op op_sub (pv 3) (pe_fld (pv 0) rfl)) (pe_fld (pv 0) rfl)) (pe_fld (pv 0) rfl)))
      (pss_cons (ps_set (i := 5) sc_Each_onward.nd rfl (Or.inl rfl) (pe_op op_add (pe_callB (call_max2 rfl) (by rfl) T.z_max (by decide +kernel) (pa_cons (pv 1) (pa_cons (pv 4) pa_nil))) pe_int))
      (pss_one (ps_ret (pe_tupN (pa_cons (pv 5) (pa_cons (pe_meth (pv 0) T.c_Each T.m_Each_stretch_at (ok_Each_stretch_at T) (hr.mono (by decide)) (b_Each_stretch_at T) .nil pass0 (pa_cons (pv 5) pa_nil)) pa_nil)))))))), ?_⟩
    obtain ⟨h1, h2, h3, h4, h5, h6, _⟩ := hok
    obtain ⟨b1, b2, b3, b4, b5⟩ := hb
    walk_at "rd"
    walk_at "Each.start"
    walk_at "rd"
    walk_at "Each.wide"
    walk_at "rd"
    walk_at "Each.step"
    refine ⟨_, _, rfl, rfl, bigD (by omega) (by omega), ?_⟩
    walk_at "rd"
    obtain ⟨k0, e1, e2, e3⟩ := each_found (s := s) (w := w) (n := n) (now := now) h3
    have e4 : n + k0 + 1 < 2 ^ 210 := by
      cases k0 with
      | zero => omega
      | succ i =>
        have e5 := e3 i (by omega)
        have e6 := Int.mul_le_mul_of_nonneg_left h3 (show 0 ≤ n + (i : Int) + 1 by omega)
        omega
    refine ⟨p, dx, _, rfl, hp, nl_Each_stretch_at, ?_⟩
    walk_at "rd"
    refine ⟨.go, p, dx, _, s, st, w, n + k0 + 1, congrArg (fun z => [V.ref p, V.int z]) e1, hp, by omega, by omega, fun t H1 ht s1 d1 => ?_⟩
    walk_at "rd"
    intro q H2 hq s2 d2
    have ee := ends_each (s := s) (st := st) (w := w) (m := m) k0 n l
    refine k k0 q t H2 (s1.trans s2) (fun j hj => ?_) ?_ (d2.trans (congrArg (fun z => some (HO.tup [V.int z, V.ref t])) e1)) ?_
    · rw [ends_each]
      exact e3 j hj
    · rw [ee]
      exact e2
    · rw [s2 _ _ d1, ee]
      show some (HO.tup [V.int _, V.int _]) = some (HO.tup [V.int (s + (n + k0 + 1) * st + w - w), V.int _])
      rw [Int.add_sub_cancel]
theorem b_Each_onward (T : Txt K mg) : Binds K (fdOf K ("Each", some "onward")) ["self", "number", "last", "now"] [] := T.d_Each_onward.bindsN fun _ _ _ _ _ _ us hl => match us, hl with | [_, _, _, _], _ => rfl
theorem sc_Each_let_by : FnScope ["self", "number", "last", "now", "found"] ["self", "number", "last", "now"] (defScope s_Each_let_by) := ⟨rfl, rfl, rfl, by decide +kernel, rfl, by decide +kernel, by decide +kernel⟩
structure sp_Each_let_by (K : PySem.W.Frag) (vs : List V) (H : Hp) (Q : VK) (E : XK) : Prop where
  tt : Go
  ex : ∃ (p dx : Addr) (fs : List (Str × V)) (r : RD) (n l now : Int), vs = [.ref p, .int n, .int l, .int now] ∧ H p = some (.ins (He.ga K "Each") dx fs) ∧ fs.lookup ("many" : Str) = some (vO r.many) ∧ fs.lookup ("onward" : Str) = none ∧ fs.lookup ("ended" : Str) = none ∧
    (∀ Q' E', Onw r n l now H Q' → sp_Each_onward K [.ref p, .int n, .int l, .int now] H Q' E') ∧ LetBy r n l now H Q
set_option maxHeartbeats 4000000 in
theorem ok_Each_let_by (T : Txt K mg) : FnOk P w K mg base CX0 3 (He.fAd K ("Each", some "let_by")) (fdOf K ("Each", some "let_by")) ["self", "number", "last", "now"] (sp_Each_let_by K) := by
  refine T.d_Each_let_by.ok sc_Each_let_by (fun vs H Q E h => ?_) (fun cdv A outer s H vs Q E hr h => ?_)
  · obtain ⟨p, dx, fs, r, n, l, now, rfl, _⟩ := h.ex
    rfl
  · obtain ⟨p, dx, fs, r, n, l, now, rfl, hp, hm, n1, n2, ho, k⟩ := h.ex
    refine ⟨_, (PSs.nox (pss_cons (ps_set (i := 4) sc_Each_let_by.nd rfl (Or.inl rfl) (pe_meth (pv 0) T.c_Each T.m_Each_onward (ok_Each_onward T) (hr.mono (by decide)) (b_Each_onward T) .nil pass0 (pa_cons (pv 1) (pa_cons (pv 2) (pa_cons (pv 3) pa_nil)))))
      (pss_cons (ps_if (pt_val (pe_meth (pv 0) T.c_Each T.m_Each_ended (ok_Each_ended T) (hr.mono (by decide)) (b_Each_ended T) .nil pass0 (pa_cons (pe_ix ix_tup (pv 4) pe_int (fun _ _ => rfl)) pa_nil))) (pss_one (ps_ret (pe_tupN (pa_cons (pe_fld (pv 0) rfl) (pa_cons pe_non pa_nil))))) pss_nil)
      (pss_one (ps_ret (pv 4)))))), ?_⟩
    walk_at "rd"
    refine ⟨p, dx, _, rfl, hp, n1, ?_⟩
    walk_at "rd"
    refine ho _ _ fun k0 q t H1 s1 e1 e2 d1 d2 => ?_
    have lb := LB_walk (r := r) k0 e1 e2
    have hp1 := s1 _ _ hp
    walk_at "rd"
    refine ⟨p, dx, _, rfl, hp1, n2, ?_⟩
    walk_at "rd"
    refine ⟨.go, p, dx, _, r.many, n + k0 + 1, rfl, hp1, hm, ?_⟩
    walk_at "rd"
    refine iteB (fun h => ?_) (fun h => ?_)
    · obtain ⟨i, e, hi⟩ := ended_some h
      rw [cutM_ended e hi] at lb
      walk_at "rd"
      refine ⟨p, _, dx, _, _, rfl, hp1, T.c_Each, T.n_Each_many, hm, ?_⟩
      walk_at "rd"
      intro q2 H2 hq s2 e3
      rw [e] at e3
      exact k _ q2 H2 (s1.trans s2) lb e3
    · rw [cutM_not h] at lb
      walk_at "rd"
      exact k _ q H1 s1 lb ⟨t, d1, d2⟩
theorem b_Each_let_by (T : Txt K mg) : Binds K (fdOf K ("Each", some "let_by")) ["self", "number", "last", "now"] [] := T.d_Each_let_by.bindsN fun _ _ _ _ _ _ us hl => match us, hl with | [_, _, _, _], _ => rfl
theorem sc_Behind_onward : FnScope ["self", "number", "last", "now", "size", "many"] ["self", "number", "last", "now"] (defScope s_Behind_onward) := ⟨rfl, rfl, rfl, by decide +kernel, rfl, by decide +kernel, by decide +kernel⟩
structure sp_Behind_onward (K : PySem.W.Frag) (vs : List V) (H : Hp) (Q : VK) (E : XK) : Prop where
  tt : Go
  ex : ∃ (p dx : Addr) (m : Option Int) (s g w n l now : Int), vs = [.ref p, .int n, .int l, .int now] ∧ H p = some (.ins (He.ga K "Behind") dx (fl_Behind (vO m) (.int s) (.int g) (.int w))) ∧ (RD.behind s g w m).ok ∧ inB n l now ∧ Onw (.behind s g w m) n l now H Q
set_option maxHeartbeats 4000000 in
theorem ok_Behind_onward (T : Txt K mg) : FnOk P w K mg base CX0 1 (He.fAd K ("Behind", some "onward")) (fdOf K ("Behind", some "onward")) ["self", "number", "last", "now"] (sp_Behind_onward K) := by
  refine T.d_Behind_onward.ok sc_Behind_onward (fun vs H Q E h => ?_) (fun cdv A outer s H vs Q E hr h => ?_)
  · obtain ⟨p, dx, m, s, g, w, n, l, now, rfl, _⟩ := h.ex
    rfl
  · obtain ⟨p, dx, m, s, g, w, n, l, now, rfl, hp, hok, hb, k⟩ := h.ex
    refine ⟨_, (PSs.nox (pss_cons (ps_set (i := 4) sc_Behind_onward.nd rfl (Or.inl rfl) (pe_op op_add (pe_fld (pv 0) rfl) (pe_fld (pv 0) rfl)))
      (pss_cons (ps_set (i := 5) sc_Behind_onward.nd rfl (Or.inl rfl) (pe_op op_add (pe_op op_fdivW (pe_op op_sub (pv 3) (pv 2)) (pv 4)) pe_int))
      (pss_cons (ps_set (i := 2) sc_Behind_onward.nd rfl (Or.inl rfl) (pe_op op_add (pv 2) (pe_op op_mulW (pv 5) (pv 4))))
      (pss_one (ps_ret (pe_tupN (pa_cons (pe_op op_add (pv 1) (pv 5)) (pa_cons (pe_tupN (pa_cons (pe_op op_sub (pv 2) (pe_fld (pv 0) rfl)) (pa_cons (pv 2) pa_nil))) pa_nil))))))))), ?_⟩
    obtain ⟨h1, h2, h3, h4, h5, h6, _⟩ := hok
    obtain ⟨b1, b2, b3, b4, b5⟩ := hb
    walk_at "rd"
    walk_at "Behind.gap"
    walk_at "rd"
    walk_at "Behind.wide"
    walk_at "rd"
    refine ⟨bigD (by omega) (by omega), ?_⟩
    walk_at "rd"
    obtain ⟨k0, e1, e2, e3⟩ := rounds (c := g + w) (show 1 ≤ g + w by omega) b4
    have e4 : (now - l) / (g + w) ≤ now - l := Int.ediv_le_self _ (by omega)
    have e0 : 0 ≤ (now - l) / (g + w) := Int.ediv_nonneg (by omega) (by omega)
    refine ⟨bigM (by omega) (by omega), ?_⟩
    walk_at "rd"
    walk_at "Behind.wide"
    walk_at "rd"
    intro t H1 ht s1 d1
    walk_at "rd"
    intro q H2 hq s2 d2
    have ee : ∀ j : Nat, (RD.behind s g w m).ends (j + 1) n l = l + ((j : Int) + 1) * (g + w) := fun j => by
      rw [ends_behind]
      congr 2
    refine k k0 q t H2 (s1.trans s2) (fun j hj => ?_) ?_ ?_ ?_
    · rw [ee]
      exact e3 j hj
    · rw [ee]
      exact e2
    · rw [d2]
      exact congrArg (fun z => some (HO.tup [V.int z, V.ref t])) (show n + ((now - l) / (g + w) + 1) = n + k0 + 1 by omega)
    · rw [s2 _ _ d1, ee, ← e1]
      rfl
theorem b_Behind_onward (T : Txt K mg) : Binds K (fdOf K ("Behind", some "onward")) ["self", "number", "last", "now"] [] := T.d_Behind_onward.bindsN fun _ _ _ _ _ _ us hl => match us, hl with | [_, _, _, _], _ => rfl
theorem sc_Behind_let_by : FnScope ["self", "number", "last", "now", "found"] ["self", "number", "last", "now"] (defScope s_Behind_let_by) := ⟨rfl, rfl, rfl, by decide +kernel, rfl, by decide +kernel, by decide +kernel⟩
structure sp_Behind_let_by (K : PySem.W.Frag) (vs : List V) (H : Hp) (Q : VK) (E : XK) : Prop where
  tt : Go
  ex : ∃ (p dx : Addr) (fs : List (Str × V)) (r : RD) (n l now : Int), vs = [.ref p, .int n, .int l, .int now] ∧ H p = some (.ins (He.ga K "Behind") dx fs) ∧ fs.lookup ("many" : Str) = some (vO r.many) ∧ fs.lookup ("onward" : Str) = none ∧ fs.lookup ("ended" : Str) = none ∧
    (∀ Q' E', Onw r n l now H Q' → sp_Behind_onward K [.ref p, .int n, .int l, .int now] H Q' E') ∧ LetBy r n l now H Q
set_option maxHeartbeats 4000000 in
theorem ok_Behind_let_by (T : Txt K mg) : FnOk P w K mg base CX0 2 (He.fAd K ("Behind", some "let_by")) (fdOf K ("Behind", some "let_by")) ["self", "number", "last", "now"] (sp_Behind_let_by K) := by
  refine T.d_Behind_let_by.ok sc_Behind_let_by (fun vs H Q E h => ?_) (fun cdv A outer s H vs Q E hr h => ?_)
  · obtain ⟨p, dx, fs, r, n, l, now, rfl, _⟩ := h.ex
    rfl
  · obtain ⟨p, dx, fs, r, n, l, now, rfl, hp, hm, n1, n2, ho, k⟩ := h.ex
    refine ⟨_, (PSs.nox (pss_cons (ps_set (i := 4) sc_Behind_let_by.nd rfl (Or.inl rfl) (pe_meth (pv 0) T.c_Behind T.m_Behind_onward (ok_Behind_onward T) (hr.mono (by decide)) (b_Behind_onward T) .nil pass0 (pa_cons (pv 1) (pa_cons (pv 2) (pa_cons (pv 3) pa_nil)))))
      (pss_cons (ps_if (pt_val (pe_meth (pv 0) T.c_Behind T.m_Behind_ended (ok_Behind_ended T) (hr.mono (by decide)) (b_Behind_ended T) .nil pass0 (pa_cons (pe_ix ix_tup (pv 4) pe_int (fun _ _ => rfl)) pa_nil))) (pss_one (ps_ret (pe_tupN (pa_cons (pe_fld (pv 0) rfl) (pa_cons pe_non pa_nil))))) pss_nil)
      (pss_one (ps_ret (pv 4)))))), ?_⟩
    walk_at "rd"
    refine ⟨p, dx, _, rfl, hp, n1, ?_⟩
    walk_at "rd"
    refine ho _ _ fun k0 q t H1 s1 e1 e2 d1 d2 => ?_
    have lb := LB_walk (r := r) k0 e1 e2
    have hp1 := s1 _ _ hp
    walk_at "rd"
    refine ⟨p, dx, _, rfl, hp1, n2, ?_⟩
    walk_at "rd"
    refine ⟨.go, p, dx, _, r.many, n + k0 + 1, rfl, hp1, hm, ?_⟩
    walk_at "rd"
    refine iteB (fun h => ?_) (fun h => ?_)
    · obtain ⟨i, e, hi⟩ := ended_some h
      rw [cutM_ended e hi] at lb
      walk_at "rd"
      refine ⟨p, _, dx, _, _, rfl, hp1, T.c_Behind, T.n_Behind_many, hm, ?_⟩
      walk_at "rd"
      intro q2 H2 hq s2 e3
      rw [e] at e3
      exact k _ q2 H2 (s1.trans s2) lb e3
    · rw [cutM_not h] at lb
      walk_at "rd"
      exact k _ q H1 s1 lb ⟨t, d1, d2⟩
theorem b_Behind_let_by (T : Txt K mg) : Binds K (fdOf K ("Behind", some "let_by")) ["self", "number", "last", "now"] [] := T.d_Behind_let_by.bindsN fun _ _ _ _ _ _ us hl => match us, hl with | [_, _, _, _], _ => rfl
theorem sc_Slowing_onward : FnScope ["self", "number", "last", "now", "gap", "size", "many"] ["self", "number", "last", "now"] (defScope s_Slowing_onward) := ⟨rfl, rfl, rfl, by decide +kernel, rfl, by decide +kernel, by decide +kernel⟩
structure sp_Slowing_onward (K : PySem.W.Frag) (vs : List V) (H : Hp) (Q : VK) (E : XK) : Prop where
  tt : Go
  ex : ∃ (p dx : Addr) (m : Option Int) (s g w mo n l now : Int), vs = [.ref p, .int n, .int l, .int now] ∧ H p = some (.ins (He.ga K "Slowing") dx (fl_Slowing (vO m) (.int s) (.int g) (.int w) (.int mo))) ∧ (RD.slow s g mo w m).ok ∧ inB n l now ∧ Onw (.slow s g mo w m) n l now H Q
set_option maxHeartbeats 4000000 in
theorem ok_Slowing_onward (T : Txt K mg) : FnOk P w K mg base CX0 2 (He.fAd K ("Slowing", some "onward")) (fdOf K ("Slowing", some "onward")) ["self", "number", "last", "now"] (sp_Slowing_onward K) := by
  refine T.d_Slowing_onward.ok sc_Slowing_onward (fun vs H Q E h => ?_) (fun cdv A outer s H vs Q E hr h => ?_)
  · obtain ⟨p, dx, m, s, g, w, mo, n, l, now, rfl, _⟩ := h.ex
    rfl
  · obtain ⟨p, dx, m, s, g, w, mo, n, l, now, rfl, hp, hok, hb, k⟩ := h.ex
    refine ⟨_, (PSs.nox (pss_cons (ps_set (i := 4) sc_Slowing_onward.nd rfl (Or.inl rfl) (pe_meth (pv 0) T.c_Slowing T.m_Slowing_gap_at (ok_Slowing_gap_at T) (hr.mono (by decide)) (b_Slowing_gap_at T) .nil pass0 (pa_cons (pe_op op_add (pv 1) pe_int) pa_nil)))
      (pss_cons (ps_while PassesOwn.never (pt_monoT (PW.pt (pw_and (pt_cmpR op_le (pv 2) (pv 3) (nomark _)) (pw_and1 (pt_cmpR op_lt (pv 4) (pe_fld (pv 0) rfl) (nomark _)))))) (pss_cons (ps_set (i := 1) sc_Slowing_onward.nd rfl (Or.inl rfl) (pe_op op_add (pv 1) pe_int))
      (pss_cons (ps_set (i := 2) sc_Slowing_onward.nd rfl (Or.inl rfl) (pe_op op_add (pe_op op_add (pv 2) (pv 4)) (pe_fld (pv 0) rfl)))
      (pss_one (ps_set (i := 4) sc_Slowing_onward.nd rfl (Or.inl rfl) (pe_callB (call_min2 rfl) (by rfl) T.z_min (by decide +kernel) (pa_cons (pe_op op_mul pe_int (pv 4)) (pa_cons (pe_fld (pv 0) rfl) pa_nil))))))))
      (pss_cons (ps_cut (ps_if (pt_cmpR op_le (pv 2) (pv 3) (nomark _)) (pss_cons (ps_set (i := 5) sc_Slowing_onward.nd rfl (Or.inl rfl) (pe_op op_add (pe_fld (pv 0) rfl) (pe_fld (pv 0) rfl)))
      (pss_cons (ps_set (i := 6) sc_Slowing_onward.nd rfl (Or.inl rfl) (pe_op op_add (pe_op op_fdivW (pe_op op_sub (pv 3) (pv 2)) (pv 5)) pe_int))
      (pss_cons (ps_set (i := 1) sc_Slowing_onward.nd rfl (Or.inl rfl) (pe_op op_add (pv 1) (pv 6)))
      (pss_one (ps_set (i := 2) sc_Slowing_onward.nd rfl (Or.inl rfl) (pe_op op_add (pv 2) (pe_op op_mulW (pv 6) (pv 5)))))))) pss_nil))
      (pss_one (ps_ret (pe_tupN (pa_cons (pv 1) (pa_cons (pe_tupN (pa_cons (pe_op op_sub (pv 2) (pe_fld (pv 0) rfl)) (pa_cons (pv 2) pa_nil))) pa_nil))))))))), ?_⟩
    obtain ⟨h1, h2, h3, h4, h5, h6, h7, _⟩ := hok
    obtain ⟨b1, b2, b3, b4, b5⟩ := hb
    walk_at "rd"
    refine ⟨p, dx, _, rfl, hp, nl_Slowing_gap_at, ?_⟩
    walk_at "rd"
    refine ⟨.go, p, dx, _, _, g, w, mo, n + 1, rfl, hp, h3, h4, by omega, by omega, ?_⟩
    rw [show (n + 1 - 1).toNat = n.toNat by omega]
    walk_at "rd"
    refine while_w (fun σ H' => ∃ i : Nat, σ = [some (.ref p), some (.int (n + i)), some (.int ((RD.slow s g mo w m).ends i n l)), some (.int now), some (.int (iter mo (n + i).toNat g)), none, none] ∧ H' = H ∧ l ≤ (RD.slow s g mo w m).ends i n l ∧ ∀ j, j < i → (RD.slow s g mo w m).ends j n l ≤ now) (fun σ _ => match σ with
      | [_, _, _, _, some (.int c), _, _] => (mo - c).toNat
      | _ => 0) ⟨0, by rw [show n + ((0 : Nat) : Int) = n by omega] <;> rfl, rfl, Int.le_refl _, fun j hj => absurd hj (by omega)⟩ ?_
    rintro σ H' ⟨i, rfl, rfl, hl, hj⟩
    have bi := iter_bd (mo := mo) (n + i).toNat (g := g) h3 h4
    walk_at "rd"
    refine iteD (fun l1 => ?_) (fun l1 => ?_)
    · walk_at "rd"
      walk_at "Slowing.most"
      walk_at "rd"
      refine iteD (fun l2 => ?_) (fun l2 => ?_)
      · walk_at "rd"
        walk_at "Slowing.wide"
        walk_at "rd"
        walk_at "Slowing.most"
        walk_at "rd"
        have e1 : (RD.slow s g mo w m).ends (i + 1) n l = (RD.slow s g mo w m).ends i n l + iter mo (n + i).toNat g + w := ends_succ _ _ _ _
        have e2 : iter mo (n + ((i + 1 : Nat) : Int)).toNat g = nxt mo (iter mo (n + i).toNat g) := by
          rw [show (n + ((i + 1 : Nat) : Int)).toNat = (n + i).toNat + 1 by omega]
          exact iter_succ _ _
        refine ⟨⟨i + 1, ?_, rfl, by omega, fun j hj2 => ?_⟩, ?_⟩
        · rw [e1, e2, show n + ((i + 1 : Nat) : Int) = n + i + 1 by omega]
          rfl
        · by_cases c : j = i
          · rw [c]
            omega
          · exact hj j (by omega)
        · have := nxt_gt (mo := mo) (g := iter mo (n + i).toNat g) (by omega) (by omega)
          show (mo - nxt mo (iter mo (n + i).toNat g)).toNat < (mo - iter mo (n + i).toNat g).toNat
          omega
      · have et : iter mo (n + i).toNat g = mo := by omega
        obtain ⟨k0, e1, e2, e3⟩ := rounds (c := mo + w) (show 1 ≤ mo + w by omega) l1
        have e4 : (now - (RD.slow s g mo w m).ends i n l) / (mo + w) ≤ now - (RD.slow s g mo w m).ends i n l := Int.ediv_le_self _ (by omega)
        have e0 : 0 ≤ (now - (RD.slow s g mo w m).ends i n l) / (mo + w) := Int.ediv_nonneg (by omega) (by omega)
        have ee : ∀ j : Nat, (RD.slow s g mo w m).ends (i + (j + 1)) n l = (RD.slow s g mo w m).ends i n l + ((j : Int) + 1) * (mo + w) := fun j => by
          rw [ends_add, ends_slow_top (by omega) _ (by omega) et]
          congr 2
        refine ⟨fun σ' H2 => H2 = H' ∧ ∃ x y z, σ' = [some (.ref p), some (.int (n + i + (k0 + 1))), some (.int ((RD.slow s g mo w m).ends (i + (k0 + 1)) n l)), some (.int now), x, y, z], ?_, ?_⟩
        · rintro σ' H2 ⟨rfl, x, y, z, rfl⟩
          walk_at "rd"
          walk_at "Slowing.wide"
          walk_at "rd"
          intro t H1 ht s1 d1
          walk_at "rd"
          intro q H3 hq s2 d2
          refine k (i + k0) q t H3 (s1.trans s2) (fun j hj2 => ?_) ?_ ?_ ?_
          · by_cases c : j + 1 < i + 1
            · by_cases c2 : j + 1 = i
              · rw [c2]
                exact l1
              · exact hj _ (by omega)
            · have e5 := ee (j - i)
              rw [show i + (j - i + 1) = j + 1 by omega] at e5
              rw [e5]
              exact e3 _ (by omega)
          · have e5 := ee k0
            rw [show i + (k0 + 1) = i + k0 + 1 by omega] at e5
            rw [e5]
            exact e2
          · rw [d2, show n + (i : Int) + ((k0 : Int) + 1) = n + ((i + k0 : Nat) : Int) + 1 by omega]
          · rw [s2 _ _ d1]
            rfl
        · walk_at "rd"
          refine iteDT l1 ?_
          walk_at "rd"
          walk_at "Slowing.most"
          walk_at "rd"
          walk_at "Slowing.wide"
          walk_at "rd"
          refine ⟨bigD (by omega) (by omega), ?_⟩
          walk_at "rd"
          refine ⟨bigM (by omega) (by omega), ?_⟩
          walk_at "rd"
          refine ⟨some (.int (iter mo (n + i).toNat g)), some (.int (mo + w)), some (.int (k0 + 1)), ?_⟩
          rw [ee, ← e1]
          rfl
    · obtain ⟨i', rfl⟩ : ∃ i', i = i' + 1 := by
        cases i with
        | zero => exact absurd b4 l1
        | succ i' => exact ⟨i', rfl⟩
      refine ⟨fun σ' H2 => H2 = H' ∧ ∃ x y z, σ' = [some (.ref p), some (.int (n + ((i' + 1 : Nat) : Int))), some (.int ((RD.slow s g mo w m).ends (i' + 1) n l)), some (.int now), x, y, z], ?_, ?_⟩
      · rintro σ' H2 ⟨rfl, x, y, z, rfl⟩
        walk_at "rd"
        walk_at "Slowing.wide"
        walk_at "rd"
        intro t H1 ht s1 d1
        walk_at "rd"
        intro q H3 hq s2 d2
        refine k i' q t H3 (s1.trans s2) (fun j hj2 => hj _ (by omega)) (by omega) ?_ ?_
        · rw [d2, show n + ((i' + 1 : Nat) : Int) = n + (i' : Int) + 1 by omega]
        · rw [s2 _ _ d1]
          rfl
      · walk_at "rd"
        refine iteDF l1 ?_
        walk_at "rd"
        exact ⟨_, _, _, rfl⟩
theorem b_Slowing_onward (T : Txt K mg) : Binds K (fdOf K ("Slowing", some "onward")) ["self", "number", "last", "now"] [] := T.d_Slowing_onward.bindsN fun _ _ _ _ _ _ us hl => match us, hl with | [_, _, _, _], _ => rfl
theorem sc_Slowing_let_by : FnScope ["self", "number", "last", "now", "found"] ["self", "number", "last", "now"] (defScope s_Slowing_let_by) := ⟨rfl, rfl, rfl, by decide +kernel, rfl, by decide +kernel, by decide +kernel⟩
structure sp_Slowing_let_by (K : PySem.W.Frag) (vs : List V) (H : Hp) (Q : VK) (E : XK) : Prop where
  tt : Go
  ex : ∃ (p dx : Addr) (fs : List (Str × V)) (r : RD) (n l now : Int), vs = [.ref p, .int n, .int l, .int now] ∧ H p = some (.ins (He.ga K "Slowing") dx fs) ∧ fs.lookup ("many" : Str) = some (vO r.many) ∧ fs.lookup ("onward" : Str) = none ∧ fs.lookup ("ended" : Str) = none ∧
    (∀ Q' E', Onw r n l now H Q' → sp_Slowing_onward K [.ref p, .int n, .int l, .int now] H Q' E') ∧ LetBy r n l now H Q
set_option maxHeartbeats 4000000 in
theorem ok_Slowing_let_by (T : Txt K mg) : FnOk P w K mg base CX0 3 (He.fAd K ("Slowing", some "let_by")) (fdOf K ("Slowing", some "let_by")) ["self", "number", "last", "now"] (sp_Slowing_let_by K) := by
  refine T.d_Slowing_let_by.ok sc_Slowing_let_by (fun vs H Q E h => ?_) (fun cdv A outer s H vs Q E hr h => ?_)
  · obtain ⟨p, dx, fs, r, n, l, now, rfl, _⟩ := h.ex
    rfl
  · obtain ⟨p, dx, fs, r, n, l, now, rfl, hp, hm, n1, n2, ho, k⟩ := h.ex
    refine ⟨_, (PSs.nox (pss_cons (ps_set (i := 4) sc_Slowing_let_by.nd rfl (Or.inl rfl) (pe_meth (pv 0) T.c_Slowing T.m_Slowing_onward (ok_Slowing_onward T) (hr.mono (by decide)) (b_Slowing_onward T) .nil pass0 (pa_cons (pv 1) (pa_cons (pv 2) (pa_cons (pv 3) pa_nil)))))
      (pss_cons (ps_if (pt_val (pe_meth (pv 0) T.c_Slowing T.m_Slowing_ended (ok_Slowing_ended T) (hr.mono (by decide)) (b_Slowing_ended T) .nil pass0 (pa_cons (pe_ix ix_tup (pv 4) pe_int (fun _ _ => rfl)) pa_nil))) (pss_one (ps_ret (pe_tupN (pa_cons (pe_fld (pv 0) rfl) (pa_cons pe_non pa_nil))))) pss_nil)
      (pss_one (ps_ret (pv 4)))))), ?_⟩
    walk_at "rd"
    refine ⟨p, dx, _, rfl, hp, n1, ?_⟩
    walk_at "rd"
    refine ho _ _ fun k0 q t H1 s1 e1 e2 d1 d2 => ?_
    have lb := LB_walk (r := r) k0 e1 e2
    have hp1 := s1 _ _ hp
    walk_at "rd"
    refine ⟨p, dx, _, rfl, hp1, n2, ?_⟩
    walk_at "rd"
    refine ⟨.go, p, dx, _, r.many, n + k0 + 1, rfl, hp1, hm, ?_⟩
    walk_at "rd"
    refine iteB (fun h => ?_) (fun h => ?_)
    · obtain ⟨i, e, hi⟩ := ended_some h
      rw [cutM_ended e hi] at lb
      walk_at "rd"
      refine ⟨p, _, dx, _, _, rfl, hp1, T.c_Slowing, T.n_Slowing_many, hm, ?_⟩
      walk_at "rd"
      intro q2 H2 hq s2 e3
      rw [e] at e3
      exact k _ q2 H2 (s1.trans s2) lb e3
    · rw [cutM_not h] at lb
      walk_at "rd"
      exact k _ q H1 s1 lb ⟨t, d1, d2⟩
theorem b_Slowing_let_by (T : Txt K mg) : Binds K (fdOf K ("Slowing", some "let_by")) ["self", "number", "last", "now"] [] := T.d_Slowing_let_by.bindsN fun _ _ _ _ _ _ us hl => match us, hl with | [_, _, _, _], _ => rfl
structure spU_let_by (K : PySem.W.Frag) (r : RD) (vs : List V) (H : Hp) (Q : VK) (E : XK) : Prop where
  tt : Go
  ex : ∃ (p : Addr) (n l now : Int), vs = [.ref p, .int n, .int l, .int now] ∧ RuleAt K H p r ∧ r.ok ∧ inB n l now ∧ LetBy r n l now H Q
theorem pm_let_by_Once {x y : Int} {vs : List V} {H : Hp} {Q : VK} {E : XK} (h : spU_let_by K (.once x y) vs H Q E) : sp_Once_let_by K (vs ++ []) H Q E := by
  obtain ⟨p, n, l, now, rfl, ⟨dx, e⟩, ok, hb, k⟩ := h.ex
  exact ⟨.go, p, dx, _, _, n, l, now, rfl, e, hb.1, fun q H1 s1 e1 => k (1, none) q H1 s1 (.over rfl (decide_eq_true (by have := hb.1; omega))) e1⟩
theorem pm_let_by_Each {s st w : Int} {m : Option Int} {vs : List V} {H : Hp} {Q : VK} {E : XK} (h : spU_let_by K (.each s st w m) vs H Q E) : sp_Each_let_by K (vs ++ []) H Q E := by
  obtain ⟨p, n, l, now, rfl, ⟨dx, e⟩, ok, hb, k⟩ := h.ex
  exact ⟨.go, p, dx, _, .each s st w m, n, l, now, rfl, e, lk_Each_many, nl_Each_onward, nl_Each_ended, fun Q' E' o => ⟨.go, p, dx, m, s, st, w, n, l, now, rfl, e, ok, hb, o⟩, k⟩
theorem pm_let_by_Behind {s g w : Int} {m : Option Int} {vs : List V} {H : Hp} {Q : VK} {E : XK} (h : spU_let_by K (.behind s g w m) vs H Q E) : sp_Behind_let_by K (vs ++ []) H Q E := by
  obtain ⟨p, n, l, now, rfl, ⟨dx, e⟩, ok, hb, k⟩ := h.ex
  exact ⟨.go, p, dx, _, .behind s g w m, n, l, now, rfl, e, lk_Behind_many, nl_Behind_onward, nl_Behind_ended, fun Q' E' o => ⟨.go, p, dx, m, s, g, w, n, l, now, rfl, e, ok, hb, o⟩, k⟩
theorem pm_let_by_Slowing {s g mo w : Int} {m : Option Int} {vs : List V} {H : Hp} {Q : VK} {E : XK} (h : spU_let_by K (.slow s g mo w m) vs H Q E) : sp_Slowing_let_by K (vs ++ []) H Q E := by
  obtain ⟨p, n, l, now, rfl, ⟨dx, e⟩, ok, hb, k⟩ := h.ex
  exact ⟨.go, p, dx, _, .slow s g mo w m, n, l, now, rfl, e, lk_Slowing_many, nl_Slowing_onward, nl_Slowing_ended, fun Q' E' o => ⟨.go, p, dx, m, s, g, w, mo, n, l, now, rfl, e, ok, hb, o⟩, k⟩

theorem sc_whole : FnScope ["_law_found"] ["_law_found"] (defScope s_whole) := ⟨rfl, rfl, rfl, by decide +kernel, rfl, by decide +kernel, by decide +kernel⟩
structure sp_whole (K : PySem.W.Frag) (vs : List V) (H : Hp) (Q : VK) (E : XK) : Prop where
  tt : Go
  ex : ∃ (x : V), vs = [x] ∧ Base K H x ∧ Q (.bl (isI x)) H
set_option maxHeartbeats 4000000 in
theorem ok_whole (T : Txt K mg) : FnOk P w K mg base CX0 1 (He.fAd K ("_law_whole", none)) (fdOf K ("_law_whole", none)) ["_law_found"] (sp_whole K) := by
  refine T.d_whole.ok sc_whole (fun vs H Q E h => ?_) (fun cdv A outer s H vs Q E hr h => ?_)
  · obtain ⟨x, rfl, _⟩ := h.ex
    rfl
  · obtain ⟨x, rfl, hb, k⟩ := h.ex
    refine ⟨_, (PSs.nox (pss_one (ps_ret (pe_and (pe_callB call_isi (by rfl) T.z_isinstance (by decide +kernel) (pa_cons (pv 0) (pa_cons (pe_bltn (v := .ty "int") (by rfl) T.z_int (by decide +kernel) rfl) pa_nil))) (pe_one (pe_not (pe_callB call_isi (by rfl) T.z_isinstance (by decide +kernel) (pa_cons (pv 0) (pa_cons (pe_bltn (v := .ty "bool") (by rfl) T.z_bool (by decide +kernel) rfl) pa_nil))))))))), ?_⟩
    obtain ⟨t, hty, ht⟩ := hb
    rw [← tyx_isI hty] at k
    refine ⟨_, rfl, _, _, _, _, _, rfl, .ty _, hty, kit_int ht, _, rfl, ?_⟩
    refine iteE (kit_or ht) ?_
    refine iteB (fun e => ?_) (fun e => ?_)
    · refine ⟨_, rfl, _, _, _, _, _, rfl, .ty _, hty, kit_bool ht, _, rfl, ?_⟩
      rw [kit_nb ht e] at k
      exact k
    · rw [kit_ni ht e] at k
      exact k
local macro_rules | `(tactic| walk_at "rd1") => `(tactic| refine sp_whole.mk .go ⟨_, rfl, base_int, ?_⟩)
theorem b_whole (T : Txt K mg) : Binds K (fdOf K ("_law_whole", none)) ["_law_found"] [] := T.d_whole.bindsN fun _ _ _ _ _ _ us hl => match us, hl with | [_], _ => rfl
theorem sc_right : FnScope ["_law_found", "_law_rule_here", "_law_number_here", "_law_now_here", "_law_first", "_law_last"] ["_law_found", "_law_rule_here", "_law_number_here", "_law_now_here"] (defScope s_right) := ⟨rfl, rfl, rfl, by decide +kernel, rfl, by decide +kernel, by decide +kernel⟩
structure sp_right (K : PySem.W.Frag) (vs : List V) (H : Hp) (Q : VK) (E : XK) : Prop where
  tt : Go
  ex : ∃ (q : Addr) (res : Int × Option (Int × Int)) (p : Addr) (r : RD) (n now : Int), vs = [.ref q, .ref p, .int n, .int now] ∧ ResAt H q res ∧ RuleAt K H p r ∧ Right r now n res ∧ 0 ≤ r.wide ∧ Q (.bl true) H
set_option maxHeartbeats 4000000 in
theorem ok_right (T : Txt K mg) : FnOk P w K mg base CX0 2 (He.fAd K ("_law_right", none)) (fdOf K ("_law_right", none)) ["_law_found", "_law_rule_here", "_law_number_here", "_law_now_here"] (sp_right K) := by
  refine T.d_right.ok sc_right (fun vs H Q E h => ?_) (fun cdv A outer s H vs Q E hr h => ?_)
  · obtain ⟨q, res, p, r, n, now, rfl, _⟩ := h.ex
    rfl
  · obtain ⟨q, res, p, r, n, now, rfl, hq, hr0, hR, hw, k⟩ := h.ex
    refine ⟨_, (PSs.nox (pss_cons (ps_if (PW.pt (pw_or (pt_not (pt_val (pe_callB call_isi (by rfl) T.z_isinstance (by decide +kernel) (pa_cons (pv 0) (pa_cons (pe_bltn (v := .ty "tuple") (by rfl) T.z_tuple (by decide +kernel) rfl) pa_nil))))) (pw_or (pt_cmpR op_ne (pe_callB call_len_seq (by rfl) T.z_len (by decide +kernel) (pa_cons (pv 0) pa_nil)) pe_int (nomark _)) (pw_or1 (pt_not (pt_val (pe_call (ok_whole T) (hr.mono (by decide)) rfl T.g_whole T.d_whole.kp (b_whole T) .nil pass0 (pa_cons (pe_ix ix_tup (pv 0) pe_int (fun _ _ => rfl)) pa_nil)))))))) (pss_one (ps_ret pe_bl)) pss_nil)
      (pss_cons (ps_if (pt_cmpR op_isN (pe_ix ix_tup (pv 0) pe_int (fun _ _ => rfl)) pe_non (nomark _)) (pss_one (ps_ret (pe_and (pe_cmpR op_notN (pe_fld (pv 1) rfl) pe_non (nomark _)) (pe_one (pe_cmpR op_eq (pe_ix ix_tup (pv 0) pe_int (fun _ _ => rfl)) (pe_fld (pv 1) rfl) (nomark _)))))) pss_nil)
      (pss_cons (ps_if (PW.pt (pw_or (pt_not (pt_val (pe_callB call_isi (by rfl) T.z_isinstance (by decide +kernel) (pa_cons (pe_ix ix_tup (pv 0) pe_int (fun _ _ => rfl)) (pa_cons (pe_bltn (v := .ty "tuple") (by rfl) T.z_tuple (by decide +kernel) rfl) pa_nil))))) (pw_or1 (pt_cmpR op_ne (pe_callB call_len_seq (by rfl) T.z_len (by decide +kernel) (pa_cons (pe_ix ix_tup (pv 0) pe_int (fun _ _ => rfl)) pa_nil)) pe_int (nomark _))))) (pss_one (ps_ret pe_bl)) pss_nil)
      (pss_cons (ps_asg (pe_ix ix_tup (pv 0) pe_int (fun _ _ => rfl)) (pg_tup (by rfl) (pgs_cons (pg_name (i := 4) sc_right.nd rfl (Or.inl rfl)) (pgs_cons (pg_name (i := 5) sc_right.nd rfl (Or.inl rfl)) pgs_nil))))
      (pss_cons (ps_if (PW.pt (pw_or (pt_not (pt_val (pe_call (ok_whole T) (hr.mono (by decide)) rfl T.g_whole T.d_whole.kp (b_whole T) .nil pass0 (pa_cons (pv 4) pa_nil)))) (pw_or (pt_not (pt_val (pe_call (ok_whole T) (hr.mono (by decide)) rfl T.g_whole T.d_whole.kp (b_whole T) .nil pass0 (pa_cons (pv 5) pa_nil)))) (pw_or (pt_cmpR op_gt (pv 4) (pv 5) (nomark _)) (pw_or1 (pt_cmpR op_le (pv 5) (pv 3) (nomark _))))))) (pss_one (ps_ret pe_bl)) pss_nil)
      (pss_one (ps_ret (pe_and (pe_cmpR op_lt (pv 2) (pe_ix ix_tup (pv 0) pe_int (fun _ _ => rfl)) (nomark _)) (pe_one (pe_or (pe_cmpR op_isN (pe_fld (pv 1) rfl) pe_non (nomark _)) (pe_one (pe_cmpR op_lt (pe_ix ix_tup (pv 0) pe_int (fun _ _ => rfl)) (pe_fld (pv 1) rfl) (nomark _)))))))))))))), ?_⟩
    obtain ⟨C, dx, fs, e1, c1, n1, l1⟩ := hr0.many T
    obtain ⟨n', o⟩ := res
    cases o with
    | none =>
      have e7 : H q = some (.tup [.int n', .non]) := hq
      have hm : r.many = some n' := hR
      rw [hm] at l1
      walk_at "rd"
      refine ⟨p, C, dx, fs, _, rfl, e1, c1, n1, l1, ?_⟩
      walk_at "rd"
      try refine iteE (c := true) (by simp [vO] <;> fail) ?_
      walk_at "rd"
      refine ⟨p, C, dx, fs, _, rfl, e1, c1, n1, l1, ?_⟩
      walk_at "rd"
      refine (congrArg (fun z => Q (V.bl z) H) ?_).mpr k
      simp [vO]
    | some st =>
      obtain ⟨t2, e7, e8⟩ := hq
      obtain ⟨h1, h2, h3, h4⟩ := hR
      walk_at "rd"
      refine iteDF (by omega) ?_
      walk_at "rd"
      refine iteDF (by omega) ?_
      walk_at "rd"
      refine iteDT h1 ?_
      walk_at "rd"
      refine ⟨p, C, dx, fs, _, rfl, e1, c1, n1, l1, ?_⟩
      walk_at "rd"
      cases hm : r.many with
      | none =>
        walk_at "rd"
        exact k
      | some i =>
        rw [hm] at l1 h2
        try refine iteE (c := false) (by simp [vO] <;> fail) ?_
        walk_at "rd"
        refine ⟨p, C, dx, fs, _, rfl, e1, c1, n1, l1, ?_⟩
        walk_at "rd"
        have h5 : n' < i := by
          have := of_decide_eq_false h2
          omega
        refine (congrArg (fun z => Q (V.bl z) H) ?_).mpr k
        exact decide_eq_true h5
theorem b_right (T : Txt K mg) : Binds K (fdOf K ("_law_right", none)) ["_law_found", "_law_rule_here", "_law_number_here", "_law_now_here"] [] := T.d_right.bindsN fun _ _ _ _ _ _ us hl => match us, hl with | [_, _, _, _], _ => rfl
theorem sc_one_step : FnScope ["_law_rule_here", "_law_number_here", "_law_last", "_law_now_here", "_law_found"] ["_law_rule_here", "_law_number_here", "_law_last", "_law_now_here"] (defScope s_one_step) := ⟨rfl, rfl, rfl, by decide +kernel, rfl, by decide +kernel, by decide +kernel⟩
structure sp_one_step (K : PySem.W.Frag) (vs : List V) (H : Hp) (Q : VK) (E : XK) : Prop where
  tt : Go
  ex : ∃ (p : Addr) (r : RD) (n l now : Int), vs = [.ref p, .int n, .int l, .int now] ∧ RuleAt K H p r ∧ r.ok ∧ inB n l now ∧ n < 2 ^ 180 ∧ LetBy r n l now H Q
set_option maxHeartbeats 4000000 in
theorem ok_one_step (T : Txt K mg) : FnOk P w K mg base CX0 5 (He.fAd K ("_law_one_step", none)) (fdOf K ("_law_one_step", none)) ["_law_rule_here", "_law_number_here", "_law_last", "_law_now_here"] (sp_one_step K) := by
  refine T.d_one_step.ok sc_one_step (fun vs H Q E h => ?_) (fun cdv A outer s H vs Q E hr h => ?_)
  · obtain ⟨p, r, n, l, now, rfl, _⟩ := h.ex
    rfl
  · obtain ⟨p, r, n, l, now, rfl, hr0, hok, hb, k⟩ := h.ex
    refine ⟨_, (PSs.nox (pss_cons (ps_set (i := 4) sc_one_step.nd rfl (Or.inl rfl) (pe_methP (At := RuleAt K) (C := RD.cls K) (sp := spU_follow K) (RuleAt.look nl_Once_follow nl_Each_follow nl_Behind_follow nl_Slowing_follow) (RD.all (fun _ _ => MRow.of T.c_Once T.m_Once_follow (ok_Once_follow T) (hr.mono (by decide)) (b_Once_follow T) .nil pass0 pm_follow_Once) (fun _ _ _ _ => MRow.of T.c_Each T.m_Each_follow (ok_Each_follow T) (hr.mono (by decide)) (b_Each_follow T) .nil pass0 pm_follow_Each) (fun _ _ _ _ => MRow.of T.c_Behind T.m_Behind_follow (ok_Behind_follow T) (hr.mono (by decide)) (b_Behind_follow T) .nil pass0 pm_follow_Behind) (fun _ _ _ _ _ => MRow.of T.c_Slowing T.m_Slowing_follow (ok_Slowing_follow T) (hr.mono (by decide)) (b_Slowing_follow T) .nil pass0 pm_follow_Slowing)) (pv 0) (pa_cons (pv 1) (pa_cons (pv 2) pa_nil))))
      (pss_cons (ps_if (pt_cmpR op_isN (pv 4) pe_non (nomark _)) (pss_one (ps_ret (pe_tupN (pa_cons (pe_fld (pv 0) rfl) (pa_cons pe_non pa_nil))))) pss_nil)
      (pss_cons (ps_if (pt_cmpR op_gt (pe_ix ix_tup (pv 4) pe_int (fun _ _ => rfl)) (pv 3) (nomark _)) (pss_one (ps_ret (pe_tupN (pa_cons (pe_op op_add (pv 1) pe_int) (pa_cons (pv 4) pa_nil))))) pss_nil)
      (pss_one (ps_ret (pe_methP (At := RuleAt K) (C := RD.cls K) (sp := spU_let_by K) (RuleAt.look nl_Once_let_by nl_Each_let_by nl_Behind_let_by nl_Slowing_let_by) (RD.all (fun _ _ => MRow.of T.c_Once T.m_Once_let_by (ok_Once_let_by T) (hr.mono (by decide)) (b_Once_let_by T) .nil pass0 pm_let_by_Once) (fun _ _ _ _ => MRow.of T.c_Each T.m_Each_let_by (ok_Each_let_by T) (hr.mono (by decide)) (b_Each_let_by T) .nil pass0 pm_let_by_Each) (fun _ _ _ _ => MRow.of T.c_Behind T.m_Behind_let_by (ok_Behind_let_by T) (hr.mono (by decide)) (b_Behind_let_by T) .nil pass0 pm_let_by_Behind) (fun _ _ _ _ _ => MRow.of T.c_Slowing T.m_Slowing_let_by (ok_Slowing_let_by T) (hr.mono (by decide)) (b_Slowing_let_by T) .nil pass0 pm_let_by_Slowing)) (pv 0) (pa_cons (pe_op op_add (pv 1) pe_int) (pa_cons (pe_ix ix_tup (pv 4) pe_int (fun _ _ => rfl)) (pa_cons (pv 3) pa_nil)))))))))), ?_⟩
    obtain ⟨b1, b2, b3, b4, b5⟩ := hb
    have hn2 := k.1
    walk_at "rd"
    refine ⟨r, p, rfl, hr0, ?_⟩
    walk_at "rd"
    refine ⟨.go, p, n, l, rfl, hr0, hok, b1, b2, fun he t H2 ht s2 e2 => ?_, fun he => ?_⟩
    · have r2 := hr0.same s2
      walk_at "rd"
      refine iteD (fun h => ?_) (fun h => ?_)
      · walk_at "rd"
        intro q H3 hq s3 e3
        exact k.2 _ q H3 (s2.trans s3) (.hit he h) ⟨t, e3, s3 _ _ e2⟩
      · walk_at "rd"
        refine ⟨r, p, rfl, r2, ?_⟩
        walk_at "rd"
        have hle : (r.next n l).2 ≤ now := by omega
        have h3 : -2 ^ 200 < (r.next n l).2 := by
          rcases next_end hok (l := l) b1 with h | ⟨h, _⟩ | ⟨x, y, rfl⟩
          · omega
          · omega
          · have := hok.1
            have := hok.2.1
            show -2 ^ 200 < y
            omega
        exact ⟨.go, p, n + 1, (r.next n l).2, now, rfl, r2, hok, ⟨by omega, by omega, h3, hle, b5⟩, fun res q H3 s3 lb e3 => k.2 _ q H3 (s2.trans s3) (.step he hle lb) e3⟩
    · walk_at "rd"
      obtain ⟨C, dx, fs, e1, c1, n1, l1⟩ := hr0.many T
      refine ⟨p, C, dx, fs, _, rfl, e1, c1, n1, l1, ?_⟩
      walk_at "rd"
      intro q H2 hq s2 e2
      obtain ⟨i, hi, lb⟩ := LB.end_ (r := r) (now := now) (l := l) he
      rw [hi] at e2
      exact k.2 _ q H2 s2 lb e2
theorem b_one_step (T : Txt K mg) : Binds K (fdOf K ("_law_one_step", none)) ["_law_rule_here", "_law_number_here", "_law_last", "_law_now_here"] [] := T.d_one_step.bindsN fun _ _ _ _ _ _ us hl => match us, hl with | [_, _, _, _], _ => rfl
theorem sc_law : FnScope ["_law_script", "_law_rule_here", "_law_number_here", "_law_last", "_law_now_here", "_law_later", "_law_found", "_law_due", "_law_after"] ["_law_script"] (defScope s_law) := ⟨rfl, rfl, rfl, by decide +kernel, rfl, by decide +kernel, by decide +kernel⟩

set_option maxHeartbeats 4000000 in
theorem ok_law (T : Txt K mg) : FnOk P w K mg base CX0 8 (He.fAd K ("law", none)) (fdOf K ("law", none)) ["_law_script"] (sp_law K) := by
  refine T.d_law.ok sc_law (fun vs H Q E h => ?_) (fun cdv A outer s H vs Q E hr h => ?_)
  · obtain ⟨a, ns, rfl, _⟩ := h.ex
    rfl
  · obtain ⟨a, ns, rfl, hS, hlen, hbits, hO, k⟩ := h.ex
    refine ⟨_, (PSs.nox (pss_cons (ps_set (i := 1) sc_law.nd rfl (Or.inl rfl) (pe_call (ok_rule T) (hr.mono (by decide)) rfl T.g_rule T.d_rule.kp (b_rule T) .nil pass0 (pa_cons (pv 0) (pa_cons (pe_call (ok_many T) (hr.mono (by decide)) rfl T.g_many T.d_many.kp (b_many T) .nil pass0 (pa_cons (pe_call (ok_cell_at T) (hr.mono (by decide)) rfl T.g_cell_at T.d_cell_at.kp (b_cell_at T) .nil pass0 (pa_cons (pv 0) (pa_cons pe_int pa_nil))) pa_nil)) pa_nil))))
      (pss_cons (ps_set (i := 2) sc_law.nd rfl (Or.inl rfl) (pe_call (ok_number T) (hr.mono (by decide)) rfl T.g_number T.d_number.kp (b_number T) .nil pass0 (pa_cons (pe_call (ok_cell_at T) (hr.mono (by decide)) rfl T.g_cell_at T.d_cell_at.kp (b_cell_at T) .nil pass0 (pa_cons (pv 0) (pa_cons pe_int pa_nil))) pa_nil)))
      (pss_cons (ps_cut (ps_if (pt_cmpR op_notN (pe_fld (pv 1) rfl) pe_non (nomark _)) (pss_one (ps_set (i := 2) sc_law.nd rfl (Or.inl rfl) (pe_op op_mod (pv 2) (pe_fld (pv 1) rfl)))) pss_nil))
      (pss_cons (ps_set (i := 3) sc_law.nd rfl (Or.inl rfl) (pe_op op_sub (pe_call (ok_number T) (hr.mono (by decide)) rfl T.g_number T.d_number.kp (b_number T) .nil pass0 (pa_cons (pe_call (ok_cell_at T) (hr.mono (by decide)) rfl T.g_cell_at T.d_cell_at.kp (b_cell_at T) .nil pass0 (pa_cons (pv 0) (pa_cons pe_int pa_nil))) pa_nil)) (pe_call (ok_number T) (hr.mono (by decide)) rfl T.g_number T.d_number.kp (b_number T) .nil pass0 (pa_cons (pe_call (ok_cell_at T) (hr.mono (by decide)) rfl T.g_cell_at T.d_cell_at.kp (b_cell_at T) .nil pass0 (pa_cons (pv 0) (pa_cons pe_int pa_nil))) pa_nil))))
      (pss_cons (ps_set (i := 4) sc_law.nd rfl (Or.inl rfl) (pe_call (ok_now T) (hr.mono (by decide)) rfl T.g_now T.d_now.kp (b_now T) .nil pass0 (pa_cons (pv 1) (pa_cons (pv 2) (pa_cons (pv 3) (pa_cons (pe_call (ok_cell_at T) (hr.mono (by decide)) rfl T.g_cell_at T.d_cell_at.kp (b_cell_at T) .nil pass0 (pa_cons (pv 0) (pa_cons pe_int pa_nil))) pa_nil))))))
      (pss_cons (ps_set (i := 5) sc_law.nd rfl (Or.inl rfl) (pe_op op_add (pv 4) (pe_call (ok_number T) (hr.mono (by decide)) rfl T.g_number T.d_number.kp (b_number T) .nil pass0 (pa_cons (pe_call (ok_cell_at T) (hr.mono (by decide)) rfl T.g_cell_at T.d_cell_at.kp (b_cell_at T) .nil pass0 (pa_cons (pv 0) (pa_cons pe_int pa_nil))) pa_nil))))
      (pss_cons (ps_set (i := 6) sc_law.nd rfl (Or.inl rfl) (pe_methP (At := RuleAt K) (C := RD.cls K) (sp := spU_let_by K) (RuleAt.look nl_Once_let_by nl_Each_let_by nl_Behind_let_by nl_Slowing_let_by) (RD.all (fun _ _ => MRow.of T.c_Once T.m_Once_let_by (ok_Once_let_by T) (hr.mono (by decide)) (b_Once_let_by T) .nil pass0 pm_let_by_Once) (fun _ _ _ _ => MRow.of T.c_Each T.m_Each_let_by (ok_Each_let_by T) (hr.mono (by decide)) (b_Each_let_by T) .nil pass0 pm_let_by_Each) (fun _ _ _ _ => MRow.of T.c_Behind T.m_Behind_let_by (ok_Behind_let_by T) (hr.mono (by decide)) (b_Behind_let_by T) .nil pass0 pm_let_by_Behind) (fun _ _ _ _ _ => MRow.of T.c_Slowing T.m_Slowing_let_by (ok_Slowing_let_by T) (hr.mono (by decide)) (b_Slowing_let_by T) .nil pass0 pm_let_by_Slowing)) (pv 1) (pa_cons (pv 2) (pa_cons (pv 3) (pa_cons (pv 4) pa_nil)))))
      (pss_cons (ps_if (PW.pt (pw_or (pt_not (pt_val (pe_callB call_isi (by rfl) T.z_isinstance (by decide +kernel) (pa_cons (pv 1) (pa_cons (pe_glob (v := .ref (He.ga K "Rule")) (by rfl) T.g_Rule rfl) pa_nil))))) (pw_or1 (pt_not (pt_val (pe_call (ok_right T) (hr.mono (by decide)) rfl T.g_right T.d_right.kp (b_right T) .nil pass0 (pa_cons (pv 6) (pa_cons (pv 1) (pa_cons (pv 2) (pa_cons (pv 4) pa_nil)))))))))) (pss_one (ps_ret pe_bl)) pss_nil)
      (pss_cons (ps_if (pt_cmpR (op_neD hr.units) (pv 6) (pe_call (ok_one_step T) (hr.mono (by decide)) rfl T.g_one_step T.d_one_step.kp (b_one_step T) .nil pass0 (pa_cons (pv 1) (pa_cons (pv 2) (pa_cons (pv 3) (pa_cons (pv 4) pa_nil))))) (nomark _)) (pss_one (ps_ret pe_bl)) pss_nil)
      (pss_cons (ps_set (i := 7) sc_law.nd rfl (Or.inl rfl) (pv 6))
      (pss_cons (ps_cut (ps_if (PW.pt (pw_and (pt_cmpR op_notN (pe_ix ix_tup (pv 6) pe_int (fun _ _ => rfl)) pe_non (nomark _)) (pw_and1 (pt_cmpR op_le (pe_ix ix_tup (pe_ix ix_tup (pv 6) pe_int (fun _ _ => rfl)) pe_int (fun _ _ => rfl)) (pv 5) (nomark _))))) (pss_one (ps_set (i := 7) sc_law.nd rfl (Or.inl rfl) (pe_methP (At := RuleAt K) (C := RD.cls K) (sp := spU_let_by K) (RuleAt.look nl_Once_let_by nl_Each_let_by nl_Behind_let_by nl_Slowing_let_by) (RD.all (fun _ _ => MRow.of T.c_Once T.m_Once_let_by (ok_Once_let_by T) (hr.mono (by decide)) (b_Once_let_by T) .nil pass0 pm_let_by_Once) (fun _ _ _ _ => MRow.of T.c_Each T.m_Each_let_by (ok_Each_let_by T) (hr.mono (by decide)) (b_Each_let_by T) .nil pass0 pm_let_by_Each) (fun _ _ _ _ => MRow.of T.c_Behind T.m_Behind_let_by (ok_Behind_let_by T) (hr.mono (by decide)) (b_Behind_let_by T) .nil pass0 pm_let_by_Behind) (fun _ _ _ _ _ => MRow.of T.c_Slowing T.m_Slowing_let_by (ok_Slowing_let_by T) (hr.mono (by decide)) (b_Slowing_let_by T) .nil pass0 pm_let_by_Slowing)) (pv 1) (pa_cons (pe_ix ix_tup (pv 6) pe_int (fun _ _ => rfl)) (pa_cons (pe_ix ix_tup (pe_ix ix_tup (pv 6) pe_int (fun _ _ => rfl)) pe_int (fun _ _ => rfl)) (pa_cons (pv 5) pa_nil)))))) pss_nil))
      (pss_cons (ps_set (i := 8) sc_law.nd rfl (Or.inl rfl) (pe_methP (At := RuleAt K) (C := RD.cls K) (sp := spU_let_by K) (RuleAt.look nl_Once_let_by nl_Each_let_by nl_Behind_let_by nl_Slowing_let_by) (RD.all (fun _ _ => MRow.of T.c_Once T.m_Once_let_by (ok_Once_let_by T) (hr.mono (by decide)) (b_Once_let_by T) .nil pass0 pm_let_by_Once) (fun _ _ _ _ => MRow.of T.c_Each T.m_Each_let_by (ok_Each_let_by T) (hr.mono (by decide)) (b_Each_let_by T) .nil pass0 pm_let_by_Each) (fun _ _ _ _ => MRow.of T.c_Behind T.m_Behind_let_by (ok_Behind_let_by T) (hr.mono (by decide)) (b_Behind_let_by T) .nil pass0 pm_let_by_Behind) (fun _ _ _ _ _ => MRow.of T.c_Slowing T.m_Slowing_let_by (ok_Slowing_let_by T) (hr.mono (by decide)) (b_Slowing_let_by T) .nil pass0 pm_let_by_Slowing)) (pv 1) (pa_cons (pv 2) (pa_cons (pv 3) (pa_cons (pv 5) pa_nil)))))
      (pss_one (ps_ret (pe_and (pe_call (ok_right T) (hr.mono (by decide)) rfl T.g_right T.d_right.kp (b_right T) .nil pass0 (pa_cons (pv 8) (pa_cons (pv 1) (pa_cons (pv 2) (pa_cons (pv 5) pa_nil))))) (pe_one (pe_cmpR (op_eqD hr.units) (pv 8) (pv 7) (nomark _))))))))))))))))))), ?_⟩
    walk_at "rd"
    have hm := @lmany_1 (cellAt ns 4)
    obtain ⟨m, em⟩ : ∃ x, x = lmany (cellAt ns 4) := ⟨_, rfl⟩
    rw [← em] at hm
    refine ⟨.go, _, rfl, ?_⟩
    walk_at "rd"
    refine ⟨.go, a, ns, m, by rw [em] <;> rfl, hS, fun i e => (hm e).1, fun r p H1 s1 hr hok hrm => ?_⟩
    have hS1 := s1.seq hS
    have n0 := lnum_0 (cellAt ns 6)
    have n1 := lnum_lt (cellAt ns 6)
    have hi : ∀ i, r.many = some i → 1 ≤ i ∧ i ≤ 10 ^ 39 := fun i e => by
      rcases hrm with h | h
      · rw [e] at h
        exact hm h.symm
      · rw [e] at h
        cases h
        decide
    walk_at "rd"
    refine ⟨fun σ H' => ∃ n, σ = [some (.ref a), some (.ref p), some (.int n), none, none, none, none, none, none] ∧ H' = H1 ∧ 0 ≤ n ∧ n ≤ 10 ^ 39, ?_, ?_⟩
    · rintro σ H' ⟨n, rfl, rfl, hn, hn2⟩
      have l0 := lnum_0 (cellAt ns 7)
      have l1 := lnum_lt (cellAt ns 7)
      have l2 := lnum_0 (cellAt ns 8)
      have l3 := lnum_lt (cellAt ns 8)
      have l4 := lnum_0 (cellAt ns 10)
      have l5 := lnum_lt (cellAt ns 10)
      walk_at "rd"
      obtain ⟨L, eL⟩ : ∃ x, x = lnum (cellAt ns 7) - lnum (cellAt ns 8) := ⟨_, rfl⟩
      refine ⟨.go, p, r, n, L, _, by rw [eL] <;> rfl, hr, hok, hn, by omega, fun now H2 s2 h1 h2 => ?_⟩
      have hS2 := s2.seq hS1
      have r2 := hr.same s2
      walk_at "rd"
      refine ⟨r, p, rfl, r2, ?_⟩
      walk_at "rd"
      obtain ⟨later, elt⟩ : ∃ x, x = now + lnum (cellAt ns 10) := ⟨_, rfl⟩
      have eL' : (fun i j => V.int (i - j)) (lnum (cellAt ns 7)) (lnum (cellAt ns 8)) = V.int L := by rw [eL]
      rw [eL']
      rw [show (fun i j => V.int (i + j)) now (lnum (cellAt ns 10)) = V.int later by rw [elt]]
      refine ⟨.go, p, n, L, now, rfl, r2, hok, ⟨hn, by omega, by omega, h1, by omega⟩, fun res q H3 s3 lb e3 => ?_⟩
      have r3 := r2.same s3
      obtain ⟨C, tC, kC⟩ := r3.isi T
      walk_at "rd"
      refine ⟨_, _, _, _, _, rfl, .own _, tC, kC, ?_⟩
      walk_at "rd"
      refine ⟨.go, q, res, p, r, n, now, rfl, e3, r3, lb.right, RD.wide0 hok, ?_⟩
      walk_at "rd"
      refine ⟨.go, p, r, n, L, now, rfl, r3, hok, ⟨hn, by omega, by omega, h1, by omega⟩, by omega, fun res2 q2 H4 s4 lb2 e4 => ?_⟩
      obtain rfl := lb.inj lb2
      have e34 := e3.same s4
      have r4 := r3.same s4
      walk_at "rd"
      refine ⟨_, _, resD_dp e34, resD_dp e4, resD_sh res, resD_sh res, ?_⟩
      rw [resD_eq res]
      walk_at "rd"
      refine ⟨fun σ H' => ∃ q5 res5, σ = [some (.ref a), some (.ref p), some (.int n), some (.int L), some (.int now), some (.int later), some (.ref q), some (.ref q5), none] ∧ Same H4 H' ∧ ResAt H' q5 res5 ∧ LB r later n L res5, ?_, ?_⟩
      · rintro σ H5 ⟨q5, res5, rfl, s5, e5, lb5⟩
        have r5 := r4.same s5
        walk_at "rd"
        refine ⟨r, p, rfl, r5, ?_⟩
        walk_at "rd"
        refine ⟨.go, p, n, L, later, rfl, r5, hok, ⟨hn, by omega, by omega, by omega, by omega⟩, fun res6 q6 H6 s6 lb6 e6 => ?_⟩
        obtain rfl := lb5.inj lb6
        have r6 := r5.same s6
        walk_at "rd"
        refine ⟨.go, q6, res5, p, r, n, later, rfl, e6, r6, lb6.right, RD.wide0 hok, ?_⟩
        walk_at "rd"
        refine ⟨_, _, resD_dp e6, resD_dp (e5.same s6), resD_sh res5, resD_sh res5, ?_⟩
        rw [resD_eq res5]
        exact k _
      · have bd := fun n' st => lb.bound hok hn h1 (n' := n') (st := st)
        have rt := lb.right
        obtain ⟨n', o⟩ := res
        cases o with
        | none =>
          have e7 : H4 q = some (.tup [.int n', .non]) := e34
          walk_at "rd"
          exact ⟨q, (n', none), rfl, Same.refl H4, e34, lb.over' rfl (by omega)⟩
        | some st =>
          obtain ⟨t2, e7, e8⟩ := id e34
          walk_at "rd"
          refine iteD (fun h => ?_) (fun h => ?_)
          · walk_at "rd"
            refine ⟨r, p, rfl, r4, ?_⟩
            walk_at "rd"
            have b := bd _ _ rfl
            obtain ⟨t0, t1, t3, t4⟩ := rt
            refine ⟨.go, p, n', st.2, later, rfl, r4, hok, ⟨by omega, by omega, by omega, h, by omega⟩, fun res6 q6 H6 s6 lb6 e6 => ?_⟩
            walk_at "rd"
            exact ⟨q6, res6, rfl, s6, e6, lb.trans rfl (by omega) h lb6⟩
          · walk_at "rd"
            exact ⟨q, (n', some st), rfl, Same.refl H4, e34, lb.stay rfl (by omega) (by omega)⟩
    · walk_at "rd"
      obtain ⟨C1, dx, fs, e1, c1, n1', l1⟩ := hr.many T
      refine ⟨p, C1, dx, fs, _, rfl, e1, c1, n1', l1, ?_⟩
      walk_at "rd"
      cases hmm : r.many with
      | none =>
        walk_at "rd"
        exact ⟨n0, by omega⟩
      | some i =>
        try refine iteE (c := true) (by simp [vO] <;> fail) ?_
        walk_at "rd"
        refine ⟨p, C1, dx, fs, _, rfl, e1, c1, n1', l1, ?_⟩
        rw [hmm]
        have hi2 := hi i hmm
        have h5 := Int.emod_nonneg (lnum (cellAt ns 6)) (b := i) (by omega)
        have h6 := Int.emod_lt_of_pos (lnum (cellAt ns 6)) (b := i) (by omega)
        refine ⟨_, _, rfl, rfl, (show 0 < i by omega), ?_⟩
        walk_at "rd"
        exact ⟨h5, by omega⟩
theorem b_law (T : Txt K mg) : Binds K (fdOf K ("law", none)) ["_law_script"] [] := T.d_law.bindsN fun _ _ _ _ _ _ us hl => match us, hl with | [_], _ => rfl
end
def dd_cell_at : He.DefD := ⟨("_law_cell_at", none), "_law_cell_at", "_law_cell_at", defArgs s_cell_at, defBody s_cell_at, defScope s_cell_at, [], []⟩
def dd_number : He.DefD := ⟨("_law_number", none), "_law_number", "_law_number", defArgs s_number, defBody s_number, defScope s_number, [], []⟩
def dd_is_whole : He.DefD := ⟨("is_whole", none), "is_whole", "is_whole", defArgs s_is_whole, defBody s_is_whole, defScope s_is_whole, [], []⟩
def dd_checked : He.DefD := ⟨("checked", none), "checked", "checked", defArgs s_checked, defBody s_checked, defScope s_checked, [], []⟩
def dd_Once_Rule_init : He.DefD := ⟨("Rule", some "__init__"), "__init__", "Rule.__init__", defArgs s_Once_Rule_init, defBody s_Once_Rule_init, defScope s_Once_Rule_init, [], []⟩
def dd_Once_init : He.DefD := ⟨("Once", some "__init__"), "__init__", "Once.__init__", defArgs s_Once_init, defBody s_Once_init, defScope s_Once_init, [.non], []⟩
def dd_Each_Rule_init : He.DefD := ⟨("Rule", some "__init__"), "__init__", "Rule.__init__", defArgs s_Each_Rule_init, defBody s_Each_Rule_init, defScope s_Each_Rule_init, [], []⟩
def dd_Each_init : He.DefD := ⟨("Each", some "__init__"), "__init__", "Each.__init__", defArgs s_Each_init, defBody s_Each_init, defScope s_Each_init, [.int 0, .non], []⟩
def dd_Behind_Rule_init : He.DefD := ⟨("Rule", some "__init__"), "__init__", "Rule.__init__", defArgs s_Behind_Rule_init, defBody s_Behind_Rule_init, defScope s_Behind_Rule_init, [], []⟩
def dd_Behind_init : He.DefD := ⟨("Behind", some "__init__"), "__init__", "Behind.__init__", defArgs s_Behind_init, defBody s_Behind_init, defScope s_Behind_init, [.int 0, .non], []⟩
def dd_Slowing_Rule_init : He.DefD := ⟨("Rule", some "__init__"), "__init__", "Rule.__init__", defArgs s_Slowing_Rule_init, defBody s_Slowing_Rule_init, defScope s_Slowing_Rule_init, [], []⟩
def dd_Slowing_Behind_init : He.DefD := ⟨("Behind", some "__init__"), "__init__", "Behind.__init__", defArgs s_Slowing_Behind_init, defBody s_Slowing_Behind_init, defScope s_Slowing_Behind_init, [.int 0, .non], []⟩
def dd_Slowing_init : He.DefD := ⟨("Slowing", some "__init__"), "__init__", "Slowing.__init__", defArgs s_Slowing_init, defBody s_Slowing_init, defScope s_Slowing_init, [.int 0, .non], []⟩
def dd_many : He.DefD := ⟨("_law_many", none), "_law_many", "_law_many", defArgs s_many, defBody s_many, defScope s_many, [], []⟩
def dd_rule : He.DefD := ⟨("_law_rule", none), "_law_rule", "_law_rule", defArgs s_rule, defBody s_rule, defScope s_rule, [], []⟩
def dd_Once_ended : He.DefD := ⟨("Once", some "ended"), "ended", "Rule.ended", defArgs s_Once_ended, defBody s_Once_ended, defScope s_Once_ended, [], []⟩
def dd_Once_begin : He.DefD := ⟨("Once", some "begin"), "begin", "Once.begin", defArgs s_Once_begin, defBody s_Once_begin, defScope s_Once_begin, [], []⟩
def dd_Once_next_of : He.DefD := ⟨("Once", some "next_of"), "next_of", "Rule.next_of", defArgs s_Once_next_of, defBody s_Once_next_of, defScope s_Once_next_of, [], []⟩
def dd_Each_ended : He.DefD := ⟨("Each", some "ended"), "ended", "Rule.ended", defArgs s_Each_ended, defBody s_Each_ended, defScope s_Each_ended, [], []⟩
def dd_Each_stretch_at : He.DefD := ⟨("Each", some "stretch_at"), "stretch_at", "Each.stretch_at", defArgs s_Each_stretch_at, defBody s_Each_stretch_at, defScope s_Each_stretch_at, [], []⟩
def dd_Each_next_of : He.DefD := ⟨("Each", some "next_of"), "next_of", "Each.next_of", defArgs s_Each_next_of, defBody s_Each_next_of, defScope s_Each_next_of, [], []⟩
def dd_Behind_ended : He.DefD := ⟨("Behind", some "ended"), "ended", "Rule.ended", defArgs s_Behind_ended, defBody s_Behind_ended, defScope s_Behind_ended, [], []⟩
def dd_Behind_gap_at : He.DefD := ⟨("Behind", some "gap_at"), "gap_at", "Behind.gap_at", defArgs s_Behind_gap_at, defBody s_Behind_gap_at, defScope s_Behind_gap_at, [], []⟩
def dd_Behind_next_of : He.DefD := ⟨("Behind", some "next_of"), "next_of", "Behind.next_of", defArgs s_Behind_next_of, defBody s_Behind_next_of, defScope s_Behind_next_of, [], []⟩
def dd_Slowing_ended : He.DefD := ⟨("Slowing", some "ended"), "ended", "Rule.ended", defArgs s_Slowing_ended, defBody s_Slowing_ended, defScope s_Slowing_ended, [], []⟩
def dd_Slowing_gap_at : He.DefD := ⟨("Slowing", some "gap_at"), "gap_at", "Slowing.gap_at", defArgs s_Slowing_gap_at, defBody s_Slowing_gap_at, defScope s_Slowing_gap_at, [], []⟩
def dd_Slowing_next_of : He.DefD := ⟨("Slowing", some "next_of"), "next_of", "Behind.next_of", defArgs s_Slowing_next_of, defBody s_Slowing_next_of, defScope s_Slowing_next_of, [], []⟩
def dd_Once_follow : He.DefD := ⟨("Once", some "follow"), "follow", "Rule.follow", defArgs s_Once_follow, defBody s_Once_follow, defScope s_Once_follow, [], []⟩
def dd_Each_follow : He.DefD := ⟨("Each", some "follow"), "follow", "Rule.follow", defArgs s_Each_follow, defBody s_Each_follow, defScope s_Each_follow, [], []⟩
def dd_Behind_follow : He.DefD := ⟨("Behind", some "follow"), "follow", "Rule.follow", defArgs s_Behind_follow, defBody s_Behind_follow, defScope s_Behind_follow, [], []⟩
def dd_Slowing_follow : He.DefD := ⟨("Slowing", some "follow"), "follow", "Rule.follow", defArgs s_Slowing_follow, defBody s_Slowing_follow, defScope s_Slowing_follow, [], []⟩
def dd_now : He.DefD := ⟨("_law_now", none), "_law_now", "_law_now", defArgs s_now, defBody s_now, defScope s_now, [], []⟩
def dd_Once_onward : He.DefD := ⟨("Once", some "onward"), "onward", "Rule.onward", defArgs s_Once_onward, defBody s_Once_onward, defScope s_Once_onward, [], []⟩
def dd_Each_onward : He.DefD := ⟨("Each", some "onward"), "onward", "Each.onward", defArgs s_Each_onward, defBody s_Each_onward, defScope s_Each_onward, [], []⟩
def dd_Behind_onward : He.DefD := ⟨("Behind", some "onward"), "onward", "Behind.onward", defArgs s_Behind_onward, defBody s_Behind_onward, defScope s_Behind_onward, [], []⟩
def dd_Slowing_onward : He.DefD := ⟨("Slowing", some "onward"), "onward", "Slowing.onward", defArgs s_Slowing_onward, defBody s_Slowing_onward, defScope s_Slowing_onward, [], []⟩
def dd_Once_let_by : He.DefD := ⟨("Once", some "let_by"), "let_by", "Rule.let_by", defArgs s_Once_let_by, defBody s_Once_let_by, defScope s_Once_let_by, [], []⟩
def dd_Each_let_by : He.DefD := ⟨("Each", some "let_by"), "let_by", "Rule.let_by", defArgs s_Each_let_by, defBody s_Each_let_by, defScope s_Each_let_by, [], []⟩
def dd_Behind_let_by : He.DefD := ⟨("Behind", some "let_by"), "let_by", "Rule.let_by", defArgs s_Behind_let_by, defBody s_Behind_let_by, defScope s_Behind_let_by, [], []⟩
def dd_Slowing_let_by : He.DefD := ⟨("Slowing", some "let_by"), "let_by", "Rule.let_by", defArgs s_Slowing_let_by, defBody s_Slowing_let_by, defScope s_Slowing_let_by, [], []⟩
def dd_whole : He.DefD := ⟨("_law_whole", none), "_law_whole", "_law_whole", defArgs s_whole, defBody s_whole, defScope s_whole, [], []⟩
def dd_right : He.DefD := ⟨("_law_right", none), "_law_right", "_law_right", defArgs s_right, defBody s_right, defScope s_right, [], []⟩
def dd_one_step : He.DefD := ⟨("_law_one_step", none), "_law_one_step", "_law_one_step", defArgs s_one_step, defBody s_one_step, defScope s_one_step, [], []⟩
def dd_law : He.DefD := ⟨("law", none), "law", "law", defArgs s_law, defBody s_law, defScope s_law, [], []⟩
def fn : List He.DefD := ([dd_cell_at, dd_number, dd_is_whole, dd_checked, dd_Once_Rule_init, dd_Once_init, dd_Each_Rule_init, dd_Each_init, dd_Behind_Rule_init, dd_Behind_init, dd_Slowing_Rule_init, dd_Slowing_Behind_init, dd_Slowing_init, dd_many, dd_rule, dd_Once_ended, dd_Once_begin, dd_Once_next_of, dd_Each_ended, dd_Each_stretch_at, dd_Each_next_of, dd_Behind_ended, dd_Behind_gap_at, dd_Behind_next_of, dd_Slowing_ended, dd_Slowing_gap_at, dd_Slowing_next_of, dd_Once_follow, dd_Each_follow, dd_Behind_follow] : List He.DefD) ++ ([dd_Slowing_follow, dd_now, dd_Once_onward, dd_Each_onward, dd_Behind_onward, dd_Slowing_onward, dd_Once_let_by, dd_Each_let_by, dd_Behind_let_by, dd_Slowing_let_by, dd_whole, dd_right, dd_one_step, dd_law] : List He.DefD)
def fa : List He.Fa := ([.free "len", .glo "_law_cell_at", .glo "_law_number", .cls "Once", .noat "Once" "many", .free "int", .free "isinstance", .free "bool", .glo "is_whole", .exc "NoRule", .glo "NoRule", .glo "checked", .glo "Rule", .noat "Once" "first", .noat "Once" "last", .glo "Once", .mkr "Once", .cls "Each", .noat "Each" "many", .noat "Each" "start", .noat "Each" "step", .noat "Each" "wide", .glo "Each", .mkr "Each", .cls "Behind", .noat "Behind" "many", .noat "Behind" "start", .noat "Behind" "gap", .noat "Behind" "wide", .glo "Behind"] : List He.Fa) ++ ([.mkr "Behind", .cls "Slowing", .noat "Slowing" "many", .noat "Slowing" "start", .noat "Slowing" "gap", .noat "Slowing" "wide", .noat "Slowing" "most", .glo "Slowing", .mkr "Slowing", .glo "_law_many", .glo "_law_rule", .meth "Once" "ended", .meth "Once" "begin", .meth "Once" "next_of", .meth "Each" "ended", .meth "Each" "stretch_at", .meth "Each" "next_of", .meth "Behind" "ended", .meth "Behind" "gap_at", .meth "Behind" "next_of", .meth "Slowing" "ended", .free "min", .meth "Slowing" "gap_at", .meth "Slowing" "next_of", .meth "Once" "follow", .meth "Each" "follow", .meth "Behind" "follow", .meth "Slowing" "follow", .free "max", .glo "_law_now"] : List He.Fa) ++ ([.meth "Once" "onward", .meth "Each" "onward", .meth "Behind" "onward", .meth "Slowing" "onward", .meth "Once" "let_by", .meth "Each" "let_by", .meth "Behind" "let_by", .meth "Slowing" "let_by", .free "tuple", .glo "_law_whole", .glo "_law_right", .glo "_law_one_step", .glo "law"] : List He.Fa)
def exs : List (PySem.W.Frag → Bool) := ([clsFnB "Rule" "__init__", clsFnB "Behind" "__init__", insTB "Once", kitB2 "Once" "Rule" true, insTB "Each", kitB2 "Each" "Rule" true, insTB "Behind", kitB2 "Behind" "Rule" true, insTB "Slowing", kitB2 "Slowing" "Rule" true] : List (PySem.W.Frag → Bool))
def exB (K : PySem.W.Frag) : Bool := exs.all fun f => f K
theorem exs_ok {K : PySem.W.Frag} (h : exB K = true) (i : Nat) {f : PySem.W.Frag → Bool} (e : exs[i]? = some f) : f K = true := List.all_eq_true.mp h f (List.mem_of_getElem? e)
theorem txt_mk {h : Heap} {K : PySem.W.Frag} {mg : Str → Option Value} (X : K.In h) (G : h.Ns mainGlobals mg) (c : SaysW fa fn exB K) : Txt K mg :=
  ⟨He.free_ok X G (c.d.fact 0 (f := .free "len") rfl),
   (let ⟨_, F⟩ := c.d.def_ 0 (d := dd_cell_at) rfl; fnT_mk F),
   He.glo_ok X G (c.d.fact 1 (f := .glo "_law_cell_at") rfl),
   (let ⟨_, F⟩ := c.d.def_ 1 (d := dd_number) rfl; fnT_mk F),
   He.glo_ok X G (c.d.fact 2 (f := .glo "_law_number") rfl),
   He.cls_ok (c.d.fact 3 (f := .cls "Once") rfl),
   He.noat_ok (c.d.fact 4 (f := .noat "Once" "many") rfl),
   He.free_ok X G (c.d.fact 5 (f := .free "int") rfl),
   He.free_ok X G (c.d.fact 6 (f := .free "isinstance") rfl),
   He.free_ok X G (c.d.fact 7 (f := .free "bool") rfl),
   (let ⟨_, F⟩ := c.d.def_ 2 (d := dd_is_whole) rfl; fnT_mk F),
   He.glo_ok X G (c.d.fact 8 (f := .glo "is_whole") rfl),
   He.exc_ok (c.d.fact 9 (f := .exc "NoRule") rfl),
   He.glo_ok X G (c.d.fact 10 (f := .glo "NoRule") rfl),
   (let ⟨_, F⟩ := c.d.def_ 3 (d := dd_checked) rfl; fnT_mk F),
   He.glo_ok X G (c.d.fact 11 (f := .glo "checked") rfl),
   (let ⟨_, F⟩ := c.d.def_ 4 (d := dd_Once_Rule_init) rfl; fnT_mk F),
   clsFn_ok (exs_ok c.more 0 rfl),
   He.glo_ok X G (c.d.fact 12 (f := .glo "Rule") rfl),
   He.noat_ok (c.d.fact 13 (f := .noat "Once" "first") rfl),
   He.noat_ok (c.d.fact 14 (f := .noat "Once" "last") rfl),
   (let ⟨_, F⟩ := c.d.def_ 5 (d := dd_Once_init) rfl; fnT_mk F),
   He.glo_ok X G (c.d.fact 15 (f := .glo "Once") rfl),
   He.mkr_ok (c.d.fact 16 (f := .mkr "Once") rfl),
   He.cls_ok (c.d.fact 17 (f := .cls "Each") rfl),
   He.noat_ok (c.d.fact 18 (f := .noat "Each" "many") rfl),
   (let ⟨_, F⟩ := c.d.def_ 6 (d := dd_Each_Rule_init) rfl; fnT_mk F),
   He.noat_ok (c.d.fact 19 (f := .noat "Each" "start") rfl),
   He.noat_ok (c.d.fact 20 (f := .noat "Each" "step") rfl),
   He.noat_ok (c.d.fact 21 (f := .noat "Each" "wide") rfl),
   (let ⟨_, F⟩ := c.d.def_ 7 (d := dd_Each_init) rfl; fnT_mk F),
   He.glo_ok X G (c.d.fact 22 (f := .glo "Each") rfl),
   He.mkr_ok (c.d.fact 23 (f := .mkr "Each") rfl),
   He.cls_ok (c.d.fact 24 (f := .cls "Behind") rfl),
   He.noat_ok (c.d.fact 25 (f := .noat "Behind" "many") rfl),
   (let ⟨_, F⟩ := c.d.def_ 8 (d := dd_Behind_Rule_init) rfl; fnT_mk F),
   He.noat_ok (c.d.fact 26 (f := .noat "Behind" "start") rfl),
   He.noat_ok (c.d.fact 27 (f := .noat "Behind" "gap") rfl),
   He.noat_ok (c.d.fact 28 (f := .noat "Behind" "wide") rfl),
   (let ⟨_, F⟩ := c.d.def_ 9 (d := dd_Behind_init) rfl; fnT_mk F),
   He.glo_ok X G (c.d.fact 29 (f := .glo "Behind") rfl),
   He.mkr_ok (c.d.fact 30 (f := .mkr "Behind") rfl),
   He.cls_ok (c.d.fact 31 (f := .cls "Slowing") rfl),
   He.noat_ok (c.d.fact 32 (f := .noat "Slowing" "many") rfl),
   (let ⟨_, F⟩ := c.d.def_ 10 (d := dd_Slowing_Rule_init) rfl; fnT_mk F),
   He.noat_ok (c.d.fact 33 (f := .noat "Slowing" "start") rfl),
   He.noat_ok (c.d.fact 34 (f := .noat "Slowing" "gap") rfl),
   He.noat_ok (c.d.fact 35 (f := .noat "Slowing" "wide") rfl),
   (let ⟨_, F⟩ := c.d.def_ 11 (d := dd_Slowing_Behind_init) rfl; fnT_mk F),
   clsFn_ok (exs_ok c.more 1 rfl),
   He.noat_ok (c.d.fact 36 (f := .noat "Slowing" "most") rfl),
   (let ⟨_, F⟩ := c.d.def_ 12 (d := dd_Slowing_init) rfl; fnT_mk F),
   He.glo_ok X G (c.d.fact 37 (f := .glo "Slowing") rfl),
   He.mkr_ok (c.d.fact 38 (f := .mkr "Slowing") rfl),
   (let ⟨_, F⟩ := c.d.def_ 13 (d := dd_many) rfl; fnT_mk F),
   He.glo_ok X G (c.d.fact 39 (f := .glo "_law_many") rfl),
   (let ⟨_, F⟩ := c.d.def_ 14 (d := dd_rule) rfl; fnT_mk F),
   He.glo_ok X G (c.d.fact 40 (f := .glo "_law_rule") rfl),
   (let ⟨_, F⟩ := c.d.def_ 15 (d := dd_Once_ended) rfl; fnT_mk F),
   He.meth_ok (c.d.fact 41 (f := .meth "Once" "ended") rfl),
   (let ⟨_, F⟩ := c.d.def_ 16 (d := dd_Once_begin) rfl; fnT_mk F),
   He.meth_ok (c.d.fact 42 (f := .meth "Once" "begin") rfl),
   (let ⟨_, F⟩ := c.d.def_ 17 (d := dd_Once_next_of) rfl; fnT_mk F),
   He.meth_ok (c.d.fact 43 (f := .meth "Once" "next_of") rfl),
   (let ⟨_, F⟩ := c.d.def_ 18 (d := dd_Each_ended) rfl; fnT_mk F),
   He.meth_ok (c.d.fact 44 (f := .meth "Each" "ended") rfl),
   (let ⟨_, F⟩ := c.d.def_ 19 (d := dd_Each_stretch_at) rfl; fnT_mk F),
   He.meth_ok (c.d.fact 45 (f := .meth "Each" "stretch_at") rfl),
   (let ⟨_, F⟩ := c.d.def_ 20 (d := dd_Each_next_of) rfl; fnT_mk F),
   He.meth_ok (c.d.fact 46 (f := .meth "Each" "next_of") rfl),
   (let ⟨_, F⟩ := c.d.def_ 21 (d := dd_Behind_ended) rfl; fnT_mk F),
   He.meth_ok (c.d.fact 47 (f := .meth "Behind" "ended") rfl),
   (let ⟨_, F⟩ := c.d.def_ 22 (d := dd_Behind_gap_at) rfl; fnT_mk F),
   He.meth_ok (c.d.fact 48 (f := .meth "Behind" "gap_at") rfl),
   (let ⟨_, F⟩ := c.d.def_ 23 (d := dd_Behind_next_of) rfl; fnT_mk F),
   He.meth_ok (c.d.fact 49 (f := .meth "Behind" "next_of") rfl),
   (let ⟨_, F⟩ := c.d.def_ 24 (d := dd_Slowing_ended) rfl; fnT_mk F),
   He.meth_ok (c.d.fact 50 (f := .meth "Slowing" "ended") rfl),
   He.free_ok X G (c.d.fact 51 (f := .free "min") rfl),
   (let ⟨_, F⟩ := c.d.def_ 25 (d := dd_Slowing_gap_at) rfl; fnT_mk F),
   He.meth_ok (c.d.fact 52 (f := .meth "Slowing" "gap_at") rfl),
   (let ⟨_, F⟩ := c.d.def_ 26 (d := dd_Slowing_next_of) rfl; fnT_mk F),
   He.meth_ok (c.d.fact 53 (f := .meth "Slowing" "next_of") rfl),
   (let ⟨_, F⟩ := c.d.def_ 27 (d := dd_Once_follow) rfl; fnT_mk F),
   He.meth_ok (c.d.fact 54 (f := .meth "Once" "follow") rfl),
   (let ⟨_, F⟩ := c.d.def_ 28 (d := dd_Each_follow) rfl; fnT_mk F),
   He.meth_ok (c.d.fact 55 (f := .meth "Each" "follow") rfl),
   (let ⟨_, F⟩ := c.d.def_ 29 (d := dd_Behind_follow) rfl; fnT_mk F),
   He.meth_ok (c.d.fact 56 (f := .meth "Behind" "follow") rfl),
   (let ⟨_, F⟩ := c.d.def_ 30 (d := dd_Slowing_follow) rfl; fnT_mk F),
   He.meth_ok (c.d.fact 57 (f := .meth "Slowing" "follow") rfl),
   He.free_ok X G (c.d.fact 58 (f := .free "max") rfl),
   (let ⟨_, F⟩ := c.d.def_ 31 (d := dd_now) rfl; fnT_mk F),
   He.glo_ok X G (c.d.fact 59 (f := .glo "_law_now") rfl),
   (let ⟨_, F⟩ := c.d.def_ 32 (d := dd_Once_onward) rfl; fnT_mk F),
   He.meth_ok (c.d.fact 60 (f := .meth "Once" "onward") rfl),
   (let ⟨_, F⟩ := c.d.def_ 33 (d := dd_Each_onward) rfl; fnT_mk F),
   He.meth_ok (c.d.fact 61 (f := .meth "Each" "onward") rfl),
   (let ⟨_, F⟩ := c.d.def_ 34 (d := dd_Behind_onward) rfl; fnT_mk F),
   He.meth_ok (c.d.fact 62 (f := .meth "Behind" "onward") rfl),
   (let ⟨_, F⟩ := c.d.def_ 35 (d := dd_Slowing_onward) rfl; fnT_mk F),
   He.meth_ok (c.d.fact 63 (f := .meth "Slowing" "onward") rfl),
   (let ⟨_, F⟩ := c.d.def_ 36 (d := dd_Once_let_by) rfl; fnT_mk F),
   He.meth_ok (c.d.fact 64 (f := .meth "Once" "let_by") rfl),
   (let ⟨_, F⟩ := c.d.def_ 37 (d := dd_Each_let_by) rfl; fnT_mk F),
   He.meth_ok (c.d.fact 65 (f := .meth "Each" "let_by") rfl),
   (let ⟨_, F⟩ := c.d.def_ 38 (d := dd_Behind_let_by) rfl; fnT_mk F),
   He.meth_ok (c.d.fact 66 (f := .meth "Behind" "let_by") rfl),
   (let ⟨_, F⟩ := c.d.def_ 39 (d := dd_Slowing_let_by) rfl; fnT_mk F),
   He.meth_ok (c.d.fact 67 (f := .meth "Slowing" "let_by") rfl),
   insT_ok (exs_ok c.more 2 rfl),
   kitB2_ok (exs_ok c.more 3 rfl),
   insT_ok (exs_ok c.more 4 rfl),
   kitB2_ok (exs_ok c.more 5 rfl),
   insT_ok (exs_ok c.more 6 rfl),
   kitB2_ok (exs_ok c.more 7 rfl),
   insT_ok (exs_ok c.more 8 rfl),
   kitB2_ok (exs_ok c.more 9 rfl),
   He.free_ok X G (c.d.fact 68 (f := .free "tuple") rfl),
   (let ⟨_, F⟩ := c.d.def_ 40 (d := dd_whole) rfl; fnT_mk F),
   He.glo_ok X G (c.d.fact 69 (f := .glo "_law_whole") rfl),
   (let ⟨_, F⟩ := c.d.def_ 41 (d := dd_right) rfl; fnT_mk F),
   He.glo_ok X G (c.d.fact 70 (f := .glo "_law_right") rfl),
   (let ⟨_, F⟩ := c.d.def_ 42 (d := dd_one_step) rfl; fnT_mk F),
   He.glo_ok X G (c.d.fact 71 (f := .glo "_law_one_step") rfl),
   (let ⟨_, F⟩ := c.d.def_ 43 (d := dd_law) rfl; fnT_mk F),
   He.glo_ok X G (c.d.fact 72 (f := .glo "law") rfl)⟩
def names : List PySem.Str := (["_wall", "WakeError", "NoRule", "is_whole", "checked", "Rule", "Once", "Each", "Behind", "Slowing", "_law_cell_at", "_law_whole", "_law_number", "_law_many", "_law_rule", "_law_now", "_law_right", "_law_one_step"] : List PySem.Str)
abbrev R : PySem.W.OpenRow := PySem.W.OpenLaw.row PySem.Challenge.rw_wakefew_k09_whole_left_alone
abbrev hk : PySem.W.Hook := hookW 6 fa fn exB
def ob (s : PySem.W.SharedT) : He.AlD × Bool := obsW 6 fa fn exB (HandSHeadRun.getT s)
theorem ob_eq (s : PySem.W.SharedT) : ob s = hk.obs s.abs := obsW_eq (HandSHeadRun.getT_eq s)
set_option maxHeartbeats 0 in
theorem run (w : World) : HandSHeadRun.RunEq R (PySem.W.view R.prog [22]) hk ob 6000 names w := by
  intro os
  kernel_rfl
end W
open PySem PySem.W PyProof.Rows
set_option maxRecDepth 100000 in
set_option maxHeartbeats 0 in
theorem PySem.Challenge.cw_wakefew_k09_whole_left_alone_holds : PySem.Challenge.rw_wakefew_k09_whole_left_alone.Holds := by
  w_on; o_law
  refine HandSHeadRun.head_any (r := OpenLaw.row PySem.Challenge.rw_wakefew_k09_whole_left_alone) (q := view (OpenLaw.row PySem.Challenge.rw_wakefew_k09_whole_left_alone).prog [22]) (H := W.hk) (ob := W.ob) (M := 6000) (loose := W.names) (d := HandSHeadRun.topDef (OpenLaw.row PySem.Challenge.rw_wakefew_k09_whole_left_alone).prog 22) (kwd := []) W.ob_eq
    (by kernel_rfl) (fun s => by kernel_rfl) W.run (by kernel_rfl) (by kernel_rfl) (by kernel_rfl) (by rfl) (by first | assumption | decide +kernel) (by decide +kernel) ⟨rfl, rfl, rfl, rfl, rfl, by decide +kernel⟩ ?hw ?hc
  case hw => w_witness2
  case hc =>
    refine W.walk_ofEB (l := PySem.Challenge.rw_wakefew_k09_whole_left_alone) (n := 63) (k := 8) (x := "_law_script") (CX := L2.CX0) rfl (by decide) (by kernel_rfl) ⟨rfl, by decide, by decide⟩ ?F (fun _ _ _ _ z => z)
    intro w mg fa h Y G hmg0
    obtain ⟨K, KX, c⟩ := Y
    have hmg : mg ("law" : PySem.Str) = some (.ref fa) := by
      have e : (HandSHeadRun.topDef (OpenLaw.row PySem.Challenge.rw_wakefew_k09_whole_left_alone).prog 22).name = ("law" : PySem.Str) := by kernel_rfl
      rw [← e]
      exact hmg0
    have T := W.txt_mk KX G c
    have e := hmg.symm.trans T.g_law
    cases e
    have b := L2.FunD.bindsA (ps := ["_law_script"]) T.d_law fun _ _ _ _ _ _ us hl => match us, hl with | [_], _ => rfl
    exact ⟨K, W.fdOf K ("law", none), W.sp_law K, KX, fun s v => b s [v] rfl, fun H a ns hl hb hO hS => ⟨.go, ⟨a, ns, rfl, hS, hl, hb, hO, fun _ => rfl⟩⟩, fun base _ _ => W.ok_law T⟩
#print axioms PySem.Challenge.cw_wakefew_k09_whole_left_alone_holds
