/- Chapter 17 does not call the reference's Words. -/
import Derived.Test.YteohdanlcaoaiaaDoorSplitLaw
