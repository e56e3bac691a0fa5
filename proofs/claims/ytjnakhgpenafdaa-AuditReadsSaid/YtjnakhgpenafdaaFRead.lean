/- Both Reads, as the print calls them. -/
import Derived.Test.YtjnakhgpenafdaaRdr
